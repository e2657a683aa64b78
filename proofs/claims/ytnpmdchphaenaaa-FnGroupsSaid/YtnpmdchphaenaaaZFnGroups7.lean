/- Texts of the claim, in build order: RegM, IR4, DR1, OpB, OC3, GO4, OC2, OB5, Q1, Q2, P5, P6, F4, F5, F6, Q3, OC4. No condition. -/
import Derived.Maps.AppendAt
import Derived.Test.YtnpmdchphaenaaaZFnGroups6
/- A region whose first m operations draw their order, with a chain among them: the calm ones stand as long as the chain has not begun; each is bound ahead of the chain or is a plain move. (Printed by genregm.py.) -/
namespace Go.Proofs.Ytnpmdchphaenaaa
open Go.RowKit
set_option linter.unusedVariables false
set_option linter.unusedSimpArgs false
structure RInvM (P : Program) (l : List Oper) (m : Nat) (ch : List Nat) (KP : World → Prop) (Q' : Act → World → Prop) (a0 aE : Act) (s : Nat) (aS : Act) (Ws : World) (listed : Array Bool) (a : Act) (w : World) : Prop where
  df : a.defers = a0.defers
  sz : a.tmps.size = a0.tmps.size
  len : listed.size = l.length
  fr1 : ∀ (j : Nat) (o : Oper) (t : Nat), j < m → l[j]? = some o → o.dst = some t → listed.getD j false = true → a.tmps.getD t undef = aS.tmps.getD t undef
  fr0 : ∀ t : Nat, (∀ (j : Nat) (o : Oper), j < m → l[j]? = some o → o.dst = some t → listed.getD j false = false) → a.tmps.getD t undef = a0.tmps.getD t undef
  sd : aS.defers = a0.defers
  ss : aS.tmps.size = a0.tmps.size
  sc : ∀ (j : Nat) (o : Oper) (t : Nat), j < m → l[j]? = some o → o.dst = some t → ch.contains j = false → aS.tmps.getD t undef = aE.tmps.getD t undef
  s0 : ∀ t : Nat, (∀ (j : Nat) (o : Oper), j < m → l[j]? = some o → o.dst ≠ some t) → aS.tmps.getD t undef = a0.tmps.getD t undef
  sq : wpCh P l.toArray (fun _ => True) Q' ((ch.drop s).filterMap fun i => l[i]?) aS Ws
  bl : Below Ws.heap.size Ws w
  kp : s = 0 → KP w
  sle : s ≤ ch.length
  cs : ∀ (k i : Nat), ch[k]? = some i → (listed.getD i false = true ↔ k < s)
  rest : ∀ j, m ≤ j → listed.getD j false = false
  dc : ∀ (i : Nat) (o : Oper), l[i]? = some o → listed.getD i false = true → ∀ e ∈ o.after, Region.binds .any e = true → listed.getD e.on false = true
section
variable {P : Program} {Q : Exit → Act → World → Prop} {l : List Oper} {a0 : Act} {w : World} {ch : List Nat} {KP : World → Prop}
end
section
variable {P : Program} {Q : Exit → Act → World → Prop} {l : List Oper} {a0 : Act} {w : World}
end
end Go.Proofs.Ytnpmdchphaenaaa
/- Contracts: the program's IncidenceRank. -- tables -/
namespace Go.Proofs.Ytnpmdchphaenaaa
open Go.RowKit
set_option linter.unusedVariables false
set_option linter.unusedSimpArgs false
def Hold (p : Prop) : Prop := p
theorem hold {p : Prop} (h : Hold p) : p := h
set_option pp.deepTerms false
set_option pp.deepTerms.threshold 8
end Go.Proofs.Ytnpmdchphaenaaa
/- Contracts: the source of the draws: its next number. -- draws -/
namespace Go.Proofs.Ytnpmdchphaenaaa
open Go.RowKit
set_option linter.unusedVariables false
set_option linter.unusedSimpArgs false
theorem RowK.cellAt {W : World} {g k : Nat} {cs : Array Value} {T : TypeId} {v : Value} (h : RowK W g cs T) (hk : cs[k]? = some v) : CellK W g k v := ⟨(cell_of_row W g k _ _ _ h.out).trans hk⟩
theorem RowK.stAt {W : World} {g k : Nat} {cs : Array Value} {T : TypeId} (h : RowK W g cs T) (hk : k < cs.size) : StK W g k := by
  have e : W.cell? ⟨g, k, none⟩ = cs[k]? := cell_of_row W g k _ _ _ h.out
  have hr : RoomI W g cs.size T := ⟨cs, h.out, rfl⟩
  exact ⟨hr.some k hk, hr.frozen k, h.lt⟩
theorem RowK.setC {W : World} {g k : Nat} {cs : Array Value} {T : TypeId} (h : RowK W g cs T) (v : Value) : RowK (W.setCell ⟨g, k, none⟩ v) g (cs.setIfInBounds k v) T := by
  refine ⟨?_⟩
  have := h.out
  simp [World.setCell, Array.getElem?_modify, this]
/-- The bytes of a code. -/
def CodeK (W : World) (b : Option Addr) (n : Nat) : Prop := 0 < n → ∃ g o, b = some ⟨g, o, none⟩ ∧ ∀ i, i < n → ∃ x : Int, W.cell? ⟨g, o + i, none⟩ = some (.int .u8 x) ∧ 0 ≤ x ∧ x ≤ 255
theorem CodeK.link {W W' : World} {b : Option Addr} {n : Nat} (l : Link W W') (h : CodeK W b n) : CodeK W' b n := fun hn => by
  obtain ⟨g, o, e, hc⟩ := h hn
  exact ⟨g, o, e, fun i hi => by obtain ⟨x, h1, h2⟩ := hc i hi; exact ⟨x, cell_below l.out h1, h2⟩⟩
theorem CodeK.but {g : Nat} {w W : World} {b : Option Addr} {n : Nat} (hB : ButK g w W) (hne : ∀ a, b = some a → a.block ≠ g) (h : CodeK w b n) : CodeK W b n := fun hn => by
  obtain ⟨gb, o, e, hc⟩ := h hn
  exact ⟨gb, o, e, fun i hi => by obtain ⟨x, h1, h2⟩ := hc i hi; exact ⟨x, cell_but hB (hne _ e) h1, h2⟩⟩
/-- The source of a draw, in block g, over a code. -/
structure SrcK (W : World) (g : Nat) (b : Option Addr) (n c : Nat) : Prop where
  row : ∃ (at_ : Nat) (h : Int), RowK W g #[.slice b n c, .int .i64 (at_ : Int), .int .u64 h] 67 ∧ at_ ≤ n ∧ 0 ≤ h ∧ h < 18446744073709551616
  code : CodeK W b n
  ne : ∀ a, b = some a → a.block ≠ g
  le : n ≤ 4096
theorem SrcK.link {W W' : World} {g n c : Nat} {b : Option Addr} (l : Link W W') (h : SrcK W g b n c) : SrcK W' g b n c := by
  obtain ⟨a, x, hr, h1⟩ := h.row
  exact ⟨⟨a, x, hr.link l, h1⟩, h.code.link l, h.ne, h.le⟩
theorem SrcK.lt {W : World} {g n c : Nat} {b : Option Addr} (h : SrcK W g b n c) : g < W.heap.size := by
  obtain ⟨a, x, hr, -⟩ := h.row
  exact hr.lt
section
variable {ρ : Operand → Value} {ops : Array Oper} {rest : List Oper} {o : Oper} {a : Act} {w W : World} {Q : Exit → Act → World → Prop} {ty : TypeId} {x y : Operand}
theorem ld_cellS {g k : Nat} {v : Value} (hop : o.op = .load ty x := by exact rfl) (hx : ρ x = .pointer (some ⟨g, k, none⟩) := by exact rfl)
    (hc : CellK W g k v := by repeat (first | with_reducible assumption | (apply CellK.link; (· with_reducible assumption))))
    (ha : ∀ W, (isAgg ty).run Try.prog W = .ok false W := by first | exact Try.isAgg65 | exact Try.isAgg3 | exact Try.isAgg22 | exact Try.isAgg5 | exact Try.isAgg2) : (execOp ρ o).run Try.prog W = .ok (.value v) W := by
  have h := hc.out
  unfold execOp
  simp only [hop, hx, Instr.loadAt, Instr.sureAddr, Sem.run_bind, Sem.run_pure, Result.andThen_ok, loadVar, ha, Bool.false_eq_true, if_false]
  rw [run_load]
  simp [h]
theorem wl_loadS {v : Value} (hK : wpList Try.prog ops Q rest (a.put o.dst v) w) (hgd : o.guard = none := by exact rfl) (hop : o.op = .load ty x := by exact rfl)
    (hr : (execOp a.eval o).run Try.prog w = .ok (.value v) w := by exact ld_cellS) : wpList Try.prog ops Q (o :: rest) a w := wpList_load_any w hgd ty x hop hr hK
theorem q_loadS {G : Grow0 w} {K : Act → Prop} {v : Value} (hK : K (a.put o.dst v)) (hop : o.op = .load ty x := by exact rfl)
    (h : ∀ W, Link w W → (execOp a.eval o).run Try.prog W = .ok (.value v) W := by (intro W hl; exact ld_cellS)) : o.quiet Try.prog a (fun w' => ∃ g : Grow w G, w' = g.W) K := q_load_any ty x hop h hK
theorem wl_storeS {g k : Nat} {v : Value} (hK : wpList Try.prog ops Q rest a (w.setCell ⟨g, k, none⟩ v)) (hgd : o.guard = none := by exact rfl) (hop : o.op = .store ty x y := by exact rfl) (hd : o.dst = none := by exact rfl)
    (hx : a.eval x = .pointer (some ⟨g, k, none⟩) := by exact rfl) (hy : a.eval y = v := by conv => lhs; whnf)
    (hS : StK w g k := by repeat (first | with_reducible assumption | (apply StK.link; (· with_reducible assumption))))
    (h1 : v.cells = #[v] := by exact rfl) (h2 : v.oneCell' = true := by exact rfl) (hs : ∀ W, (sizeOf ty).run Try.prog W = .ok 1 W := by first | exact Try.sizeOf65 | exact Try.sizeOf3 | exact Try.sizeOf2) : wpList Try.prog ops Q (o :: rest) a w := by
  obtain ⟨s1, s2, -⟩ := hS.out
  obtain ⟨u, hu⟩ := Option.isSome_iff_exists.1 s1
  have hr : (execOp a.eval o).run Try.prog w = .ok .skip (w.setCell ⟨g, k, none⟩ v) := by
    unfold execOp
    simp only [hop, hx, hy, Instr.storeAt, Instr.sureAddr, Sem.run_bind, Sem.run_pure, Result.andThen_ok, storeVar, hs, h1]
    have e : ((⟨g, k, none⟩ : Addr).add 0) = ⟨g, k, none⟩ := by unfold Addr.add; split <;> simp_all
    simp [storeCells, e, run_store, h2, hu, s2, go_sem]
  refine wpList_plain hgd fun K hK' => ?_
  unfold Oper.wp
  rw [hr]
  simp only [Oper.upon, hd]
  exact hK' _ _ hK
end
theorem wrapU (x : Int) : 0 ≤ IntKind.wrap .u64 x ∧ IntKind.wrap .u64 x < 18446744073709551616 := by
  rw [IntKind.wrap_u64]; omega
theorem bits_bd (E : Int) (h0 : 0 ≤ E) (h1 : E < 18446744073709551616) : 0 ≤ bits BinOp.and IntKind.u64 E 16777215 ∧ bits BinOp.and IntKind.u64 E 16777215 ≤ 16777215 := by
  obtain ⟨e, rfl⟩ : ∃ e : Nat, E = (e : Int) := ⟨E.toNat, by omega⟩
  have hl : e &&& 16777215 ≤ 16777215 := Nat.and_le_right
  have e1 : bits BinOp.and IntKind.u64 (e : Int) 16777215 = ((e &&& 16777215 : Nat) : Int) := bits_and_u64_nat e 16777215 (by omega) (by decide)
  rw [e1]; omega
theorem mod_nat (a b m : Nat) : ((a : Int) + (b : Int)) % (m : Int) = (((a + b) % m : Nat) : Int) := by simp
/-- What a draw leaves: the source, and all else as it was. -/
structure Drew (g : Nat) (b : Option Addr) (n c : Nat) (w W : World) : Prop where
  src : SrcK W g b n c
  but : ButK g w W
set_option pp.deepTerms false
set_option pp.deepTerms.threshold 10
set_option maxRecDepth 20000 in
set_option maxHeartbeats 8000000 in
theorem Next_S (g : Nat) (b : Option Addr) (n c : Nat) (m : Int) (w : World) (hS : SrcK w g b n c) (hm : 1 ≤ m) :
    Calls Try.prog 46 #[.pointer (some ⟨g, 0, none⟩), .int .i64 m] w (fun e W => ∃ r : Nat, e = .returned (.int .i64 (r : Int)) ∧ (r : Int) < m ∧ Drew g b n c w W) := by
  obtain ⟨at_, h, hrow, hat, h0, h1⟩ := hS.row
  have c0 : CellK w g 0 (.slice b n c) := hrow.cellAt rfl
  have c1 : CellK w g 1 (.int .i64 (at_ : Int)) := hrow.cellAt rfl
  have c2 : CellK w g 2 (.int .u64 h) := hrow.cellAt rfl
  have s1 : StK w g 1 := hrow.stAt (by show 1 < 3; decide)
  have s2 : StK w g 2 := hrow.stAt (by show 2 < 3; decide)
  have hm2 : ¬ m < 1 := by omega
  have hr2 := wrapU (IntKind.wrap .u64 (h * 6364136223846793005) + 1442695040888963407)
  go_enter Try.func46, Try.ntmps46
  go_wp2_with (first | (with_reducible refine hold (p := wpList _ _ _ ({ dst := none, op := .store _ _ _, type := _, pos := _, after := _, guard := _ } :: _) _ _) ?_) | (refine wl_loadS ?_))
  unfold Hold
  refine wl_storeS ?_
  generalize IntKind.wrap .u64 (IntKind.wrap .u64 (h * 6364136223846793005) + 1442695040888963407) = h2 at *
  have hrow1 : RowK (w.setCell ⟨g, 2, none⟩ (.int .u64 h2)) g #[.slice b n c, .int .i64 (at_ : Int), .int .u64 h2] 67 := hrow.setC (k := 2) (.int .u64 h2)
  have hB1 : ButK g w (w.setCell ⟨g, 2, none⟩ (.int .u64 h2)) := (ButK.refl g w).set 2 _
  clear c0 c1 c2 s1 s2 hrow
  generalize w.setCell ⟨g, 2, none⟩ (.int .u64 h2) = W1 at *
  have c0 : CellK W1 g 0 (.slice b n c) := hrow1.cellAt rfl
  have c1 : CellK W1 g 1 (.int .i64 (at_ : Int)) := hrow1.cellAt rfl
  have c2 : CellK W1 g 2 (.int .u64 h2) := hrow1.cellAt rfl
  have s1 : StK W1 g 1 := hrow1.stAt (by show 1 < 3; decide)
  obtain ⟨y0, y1⟩ := bits_bd (h2 / 8589934592) (by omega) (by omega)
  have hw64 : wrap64 (bits BinOp.and IntKind.u64 (h2 / 8589934592) 16777215) = bits BinOp.and IntKind.u64 (h2 / 8589934592) 16777215 := by rw [wrap64]; omega
  by_cases hlt : at_ < n
  · obtain ⟨gb, o, rfl, hc⟩ := (hS.code.but hB1 hS.ne) (by omega)
    obtain ⟨x, hx, hx0, hx1⟩ := hc at_ hlt
    have c3 : CellK W1 gb (o + at_) (.int .u8 x) := ⟨hx⟩
    have hle := hS.le
    have hxw : wrap64 x = x := by rw [wrap64]; omega
    have hxs : wrap64 (bits BinOp.and IntKind.u64 (h2 / 8589934592) 16777215 + x) = bits BinOp.and IntKind.u64 (h2 / 8589934592) 16777215 + x := by rw [wrap64]; omega
    go_wp2_with (first | (with_reducible refine hold (p := wpList _ _ _ ({ dst := none, op := .store _ _ _, type := _, pos := _, after := _, guard := _ } :: _) _ _) ?_) | (refine wl_loadS ?_) | ((with_reducible apply region_gd (id := 5)); refine region_QA (id := 5) 10 ?_; apply Exists.intro; refine ⟨fun G => ?_, fun W hl => ?_⟩; (· (simp only [List.take_succ_cons, List.take_zero]; (repeat (first | go_big_quiet_skip | (go_big_quiet_want; first | (refine q_loadS ?_; simp only [Act.put, List.setIfInBounds_toArray, List.set_cons_zero, List.set_cons_succ]; go_big_quiet_on) | (refine q_load ?_; simp only [Act.put, List.setIfInBounds_toArray, List.set_cons_zero, List.set_cons_succ]; go_big_quiet_on) | (go_big_quiet_op; first | go_big_quiet_on)))); exact rfl)); have hs := hl.out.size; (try simp at hs); simp only [List.drop_succ_cons, List.drop_zero]) | ((with_reducible apply region_gd (id := 6)); refine region_QA (id := 6) 13 ?_; apply Exists.intro; refine ⟨fun G => ?_, fun W hl => ?_⟩; (· (simp only [List.take_succ_cons, List.take_zero]; (repeat (first | go_big_quiet_skip | (go_big_quiet_want; first | (refine q_loadS ?_; simp only [Act.put, List.setIfInBounds_toArray, List.set_cons_zero, List.set_cons_succ]; go_big_quiet_on) | (refine q_load ?_; simp only [Act.put, List.setIfInBounds_toArray, List.set_cons_zero, List.set_cons_succ]; go_big_quiet_on) | (go_big_quiet_op; first | go_big_quiet_on)))); exact rfl)); have hs := hl.out.size; (try simp at hs); simp only [List.drop_succ_cons, List.drop_zero]))
    unfold Hold
    refine wl_storeS ?_
    have hlow : LowK W1 W := findLow
    have hrow2 : RowK (W.setCell ⟨g, 1, none⟩ (.int .i64 ((at_ : Int) + 1))) g #[.slice (some ⟨gb, o, none⟩) n c, .int .i64 ((at_ + 1 : Nat) : Int), .int .u64 h2] 67 := (hrow1.link (LowK.lnk hlow)).setC (k := 1) (.int .i64 ((at_ : Int) + 1))
    have hB2 : ButK g w (W.setCell ⟨g, 1, none⟩ (.int .i64 ((at_ : Int) + 1))) := (hB1.low hlow).set 1 _
    generalize W.setCell ⟨g, 1, none⟩ (.int .i64 ((at_ : Int) + 1)) = W3 at *
    go_wp2
    have HR := Lib.hid hr2
    have HS := Lib.hid hS
    have HAT := Lib.hid (show at_ + 1 ≤ n by omega)
    clear hr2 hS hxw hxs hw64 hc hx h0 h1 hle hat hlt
    generalize bits BinOp.and IntKind.u64 (h2 / 8589934592) 16777215 = y at *
    obtain ⟨yn, rfl⟩ := Int.eq_ofNat_of_zero_le y0
    obtain ⟨xn, rfl⟩ := Int.eq_ofNat_of_zero_le hx0
    obtain ⟨mn, rfl⟩ := Int.eq_ofNat_of_zero_le (show 0 ≤ m by omega)
    (apply ret_one Try.results46; (conv => lhs; whnf); exact rfl)
    exact ⟨(yn + xn) % mn, congrArg (fun z : Int => Ending.returned (Value.int .i64 z)) (mod_nat yn xn mn), by have := Nat.mod_lt (yn + xn) (show 0 < mn by omega); omega, ⟨⟨at_ + 1, h2, hrow2, HAT.out, HR.out.1, HR.out.2⟩, HS.out.code.but hB2 HS.out.ne, HS.out.ne, HS.out.le⟩, hB2⟩
  · go_wp2_with (first | (refine wl_loadS ?_) | (refine wl_load ?_) | (refine wl_storeS ?_) | (refine wl_store ?_) | (refine wl_build ?_) | (refine wl_slice ?_) | (refine wl_append ?_; intro v' w' ho hg hb; have hs := hg.size; (try simp at hs); (try rw [ptCs_end] at ho); (try rw [ints_end] at ho); (try simp only [Nat.zero_add, Nat.reduceAdd, List.nil_append, List.cons_append] at ho)) | ((with_reducible apply region_gd (id := 5)); refine region_QA (id := 5) 10 ?_; apply Exists.intro; refine ⟨fun G => ?_, fun W hl => ?_⟩; (· (simp only [List.take_succ_cons, List.take_zero]; (repeat (first | go_big_quiet_skip | (go_big_quiet_want; first | (refine q_loadS ?_; simp only [Act.put, List.setIfInBounds_toArray, List.set_cons_zero, List.set_cons_succ]; go_big_quiet_on) | (refine q_load ?_; simp only [Act.put, List.setIfInBounds_toArray, List.set_cons_zero, List.set_cons_succ]; go_big_quiet_on) | (go_big_quiet_op; first | go_big_quiet_on)))); exact rfl)); have hs := hl.out.size; (try simp at hs); simp only [List.drop_succ_cons, List.drop_zero]) | ((with_reducible apply region_gd (id := 6)); refine region_QA (id := 6) 13 ?_; apply Exists.intro; refine ⟨fun G => ?_, fun W hl => ?_⟩; (· (simp only [List.take_succ_cons, List.take_zero]; (repeat (first | go_big_quiet_skip | (go_big_quiet_want; first | (refine q_loadS ?_; simp only [Act.put, List.setIfInBounds_toArray, List.set_cons_zero, List.set_cons_succ]; go_big_quiet_on) | (refine q_load ?_; simp only [Act.put, List.setIfInBounds_toArray, List.set_cons_zero, List.set_cons_succ]; go_big_quiet_on) | (go_big_quiet_op; first | go_big_quiet_on)))); exact rfl)); have hs := hl.out.size; (try simp at hs); simp only [List.drop_succ_cons, List.drop_zero]))
    generalize bits BinOp.and IntKind.u64 (h2 / 8589934592) 16777215 = y at *
    obtain ⟨yn, rfl⟩ : ∃ yn : Nat, y = (yn : Int) := ⟨y.toNat, by omega⟩
    obtain ⟨mn, rfl⟩ : ∃ mn : Nat, m = (mn : Int) := ⟨m.toNat, by omega⟩
    rw [show ((yn : Int) % (mn : Int)) = ((yn % mn : Nat) : Int) from rfl]
    have hlow : LowK W1 W := findLow
    (apply ret_one Try.results46; (conv => lhs; whnf); exact rfl)
    exact ⟨yn % mn, rfl, by have := Nat.mod_lt yn (show 0 < mn by omega); omega, ⟨⟨at_, h2, hrow1.link (LowK.lnk hlow), hat, hr2.1, hr2.2⟩, (hS.code.but hB1 hS.ne).link (LowK.lnk hlow), hS.ne, hS.le⟩, hB1.low hlow⟩
end Go.Proofs.Ytnpmdchphaenaaa
/- A list of bytes as an argument: opened. -- draws -/
namespace Go.Proofs.Ytnpmdchphaenaaa
open Go.ChangeShapes Go.WideShapes Go.ChangeAt Go.RowKit Go.Deep
set_option linter.unusedVariables false
section
variable {H : Type} {enc : TypeId × Value → H} {P : Program} {W : World} {b0 : Nat} {held : Bool}
theorem shape_lt {g : Nat} {x : TypeId × Nat} (h : W.shape? g = some x) : g < W.heap.size := by
  unfold World.shape? at h
  rcases hg : W.heap[g]? with _ | o
  · rw [hg] at h; simp at h
  · exact (Array.getElem?_eq_some_iff.1 hg).1
theorem open_sl_b {r : Reach} {t e : TypeId} {v : Value} {d : DataW H} {p : List MemPlace} (ht : P.underlying t = some (.slice e)) (he : P.underlying e = some (.int .u8)) (hc : P.cellsOf e = 1)
    (hv : Value.okWide P W r b0 t v) (h : DataW.Trod enc P W 0 (fun _ => true) held t v d p) :
    ∃ (b : Option Addr) (k cap : Nat), v = .slice b k cap ∧ CodeK W b k ∧ ∀ a, b = some a → a.block < W.heap.size := by
  have hv0 := hv
  obtain ⟨a0, len, cap, rfl⟩ := okWide_slice ht hv
  obtain ⟨fuel, hf⟩ := h
  rcases open_ints ht he hc hf with ⟨hcs, hx⟩ | ⟨a, len', cap', zs, hcs, _, hl, hm, hz, hx, hcell, hwz⟩
  · simp [Value.cells] at hcs
    obtain ⟨rfl, rfl, rfl⟩ := hcs
    exact ⟨none, 0, 0, rfl, fun h => absurd h (Nat.lt_irrefl _), fun a ha => by cases ha⟩
  · simp [Value.cells] at hcs
    obtain ⟨rfl, rfl, rfl⟩ := hcs
    simp only [if_true] at hz
    refine ⟨some a, len, cap, rfl, fun hk => ?_, fun a' ha' => ?_⟩
    · obtain ⟨b, off, spot⟩ := a
      have hspot : spot = none := by simpa [Addr.add] using World.cell?_spot (hcell 0 (by omega))
      subst hspot
      refine ⟨b, off, rfl, fun i hi => ?_⟩
      have h1 := hcell i (by omega)
      rw [add_plain] at h1
      have hmem : zs.getD i 0 ∈ zs := by
        rw [List.getD, List.getElem?_eq_getElem (show i < zs.length by omega)]
        exact List.getElem_mem _
      have hw := hwz _ hmem
      refine ⟨_, h1, ?_⟩
      simp [Lit.wf, IntKind.min, IntKind.max] at hw
      first | exact hw | exact ⟨by omega, by omega⟩
    · cases ha'
      simp only [Value.okWide, ht, Cell.okWide, Cell.ok] at hv0
      obtain ⟨-, -, -, -, row, cells, h, -⟩ := hv0
      exact shape_lt h
end
end Go.Proofs.Ytnpmdchphaenaaa
/- Lists of lists of points in memory; the classes as lists. -/
namespace Go.Proofs.Ytnpmdchphaenaaa
open Go.RowKit
set_option linter.unusedVariables false
set_option linter.unusedSimpArgs false
/-- Block, room and points of each list. -/
abbrev Row3 := Nat × Nat × List Pt
@[reducible] def slV (t : Row3) : Value := .slice (some ⟨t.1, 0, none⟩) t.2.2.length t.2.1
def tabV (T : List Row3) : List Value := T.map slV
structure TabK (W : World) (B : Nat) (T : List Row3) : Prop where
  out : (∀ t ∈ T, 0 < t.2.2.length ∧ OwnK W B 34 3 (slV t) t.2.2.length (ptCs t.2.2)) ∧ (T.map (·.1)).Nodup
theorem TabK.nil (W : World) (B : Nat) : TabK W B [] := ⟨⟨fun t ht => absurd ht (by simp), by simp⟩⟩
theorem TabK.link {W W' : World} {B : Nat} {T : List Row3} (l : Link W W') (h : TabK W B T) : TabK W' B T := ⟨⟨fun t ht => ⟨(h.out.1 t ht).1, (h.out.1 t ht).2.link l⟩, h.out.2⟩⟩
theorem own_types {W : World} {B B' sz sz' n n' : Nat} {T T' : TypeId} {v u : Value} {xs xs' : List Value} (h : OwnK W B T sz v n xs) (h' : OwnK W B' T' sz' u n' xs') (hne : T ≠ T') (b : Nat) (hb : v.ownBlock = some b) : u.ownBlock ≠ some b := by
  intro hu
  rcases h.out.2 with ⟨rfl, _⟩ | ⟨g1, c1, r1, rfl, _, h1, _⟩
  · simp [Value.ownBlock] at hb
  · rcases h'.out.2 with ⟨rfl, _⟩ | ⟨g2, c2, r2, rfl, _, h2, _⟩
    · simp [Value.ownBlock] at hu
    · simp [Value.ownBlock] at hb hu
      subst hb; subst hu
      rw [h1] at h2
      cases h2
      exact hne rfl
theorem TabK.grew {W W' : World} {B B' n : Nat} {T : List Row3} {u : Value} {xs : List Value} (hg : Grew W u W') (hO : OwnK W B' 39 1 u n xs) (h : TabK W B T) : TabK W' B T :=
  ⟨⟨fun t ht => ⟨(h.out.1 t ht).1, OwnK.grew hg (h.out.1 t ht).2 (fun b hb => own_types (h.out.1 t ht).2 hO (by decide) b hb)⟩, h.out.2⟩⟩
theorem TabK.lt {W : World} {B : Nat} {T : List Row3} (h : TabK W B T) {t : Row3} (ht : t ∈ T) : t.1 < W.heap.size := (h.out.1 t ht).2.lt t.1 rfl
theorem TabK.snoc {W : World} {B g cap : Nat} {T : List Row3} {l : List Pt} (h : TabK W B T) (hl : 0 < l.length) (hO : OwnK W B 34 3 (.slice (some ⟨g, 0, none⟩) l.length cap) l.length (ptCs l)) (hne : ∀ t ∈ T, t.1 ≠ g) : TabK W B (T ++ [(g, cap, l)]) := by
  refine ⟨⟨fun t ht => ?_, ?_⟩⟩
  · rcases List.mem_append.1 ht with ht | ht
    · exact h.out.1 t ht
    · rw [List.mem_singleton.1 ht]; exact ⟨hl, hO⟩
  · rw [List.map_append, List.nodup_append]
    refine ⟨h.out.2, by simp, fun a ha b hb => ?_⟩
    obtain ⟨t, ht, rfl⟩ := List.mem_map.1 ha
    simp at hb
    subst hb
    exact hne t ht
theorem tabV_snoc (T : List Row3) (t : Row3) : tabV T ++ [slV t] = tabV (T ++ [t]) := by simp [tabV]
theorem OwnK.lower {W : World} {B B' sz n : Nat} {T : TypeId} {v : Value} {xs : List Value} (hB : B' ≤ B) (h : OwnK W B T sz v n xs) : OwnK W B' T sz v n xs := by
  refine ⟨⟨h.out.1, ?_⟩⟩
  rcases h.out.2 with ⟨a, b⟩ | ⟨g, c, r, h1, h2, h3⟩
  · exact .inl ⟨a, b⟩
  · exact .inr ⟨g, c, r, h1, Nat.le_trans hB h2, h3⟩
theorem TabK.lower {W : World} {B B' : Nat} {T : List Row3} (hB : B' ≤ B) (h : TabK W B T) : TabK W B' T := ⟨⟨fun t ht => ⟨(h.out.1 t ht).1, OwnK.lower hB (h.out.1 t ht).2⟩, h.out.2⟩⟩
theorem OwnK.form {W : World} {B sz n : Nat} {T : TypeId} {v : Value} {xs : List Value} (h : OwnK W B T sz v n xs) : ∃ b cap, v = .slice b n cap := by
  rcases h.out.2 with ⟨rfl, rfl⟩ | ⟨g, c, r, rfl, _⟩
  · exact ⟨_, _, rfl⟩
  · exact ⟨_, _, rfl⟩
/-- The points of a class. -/
def filtP (cls : Nat → Nat) (L : List Pt) (i : Nat) : Nat → List Pt
  | 0 => []
  | k + 1 => if cls k = i then filtP cls L i k ++ [L.getD k p0] else filtP cls L i k
theorem filtP_yes {cls : Nat → Nat} {L : List Pt} {i k : Nat} {t : Pt} (h : cls k = i) (ht : L.getD k p0 = t) : filtP cls L i (k + 1) = filtP cls L i k ++ [t] := by rw [← ht]; exact if_pos h
theorem filtP_no {cls : Nat → Nat} {L : List Pt} {i k : Nat} (h : ¬ cls k = i) : filtP cls L i (k + 1) = filtP cls L i k := if_neg h
theorem filtP_len (cls : Nat → Nat) (L : List Pt) (i : Nat) : ∀ k, (filtP cls L i k).length ≤ k
  | 0 => Nat.le_refl _
  | k + 1 => by
    have := filtP_len cls L i k
    by_cases h : cls k = i
    · rw [filtP_yes h rfl, List.length_append]; show _ + 1 ≤ _; omega
    · rw [filtP_no h]; omega
theorem filtP_mem {cls : Nat → Nat} {L : List Pt} {i : Nat} {t : Pt} : ∀ {k}, t ∈ filtP cls L i k ↔ ∃ q, q < k ∧ cls q = i ∧ L.getD q p0 = t
  | 0 => by simp [filtP]
  | k + 1 => by
    by_cases h : cls k = i
    · rw [filtP_yes h rfl, List.mem_append, filtP_mem, List.mem_singleton]
      constructor
      · rintro (⟨q, h1, h2⟩ | rfl)
        · exact ⟨q, by omega, h2⟩
        · exact ⟨k, by omega, h, rfl⟩
      · rintro ⟨q, h1, h2, h3⟩
        by_cases e : q = k
        · subst e; exact .inr h3.symm
        · exact .inl ⟨q, by omega, h2, h3⟩
    · rw [filtP_no h, filtP_mem]
      constructor
      · rintro ⟨q, h1, h2⟩; exact ⟨q, by omega, h2⟩
      · rintro ⟨q, h1, h2, h3⟩
        refine ⟨q, ?_, h2, h3⟩
        by_cases e : q = k
        · subst e; exact absurd h2 h
        · omega
def tabL (cls : Nat → Nat) (L : List Pt) (N : Nat) : Nat → List (List Pt)
  | 0 => []
  | i + 1 => if 0 < (filtP cls L i N).length then tabL cls L N i ++ [filtP cls L i N] else tabL cls L N i
theorem tabL_yes {cls : Nat → Nat} {L : List Pt} {N i : Nat} {l : List Pt} (hl : filtP cls L i N = l) (h : 0 < l.length) : tabL cls L N (i + 1) = tabL cls L N i ++ [l] := by rw [← hl]; exact if_pos (by rw [hl]; exact h)
theorem tabL_no {cls : Nat → Nat} {L : List Pt} {N i : Nat} {l : List Pt} (hl : filtP cls L i N = l) (h : ¬ 0 < l.length) : tabL cls L N (i + 1) = tabL cls L N i := if_neg (by rw [hl]; exact h)
theorem tabL_len (cls : Nat → Nat) (L : List Pt) (N : Nat) : ∀ i, (tabL cls L N i).length ≤ i
  | 0 => Nat.le_refl _
  | i + 1 => by
    have := tabL_len cls L N i
    by_cases h : 0 < (filtP cls L i N).length
    · rw [tabL_yes rfl h, List.length_append]; show _ + 1 ≤ _; omega
    · rw [tabL_no rfl h]; omega
/-- The result: the classes' lists, each in a block of its own. -/
def OrbsPost (w : World) (Ls : List (List Pt)) : Ending → World → Prop := fun e w' => ∃ v T, e = .returned v ∧ T.map (·.2.2) = Ls ∧ TabK w' w.heap.size T ∧ OwnK w' w.heap.size 39 1 v T.length (tabV T) ∧ LowK w w'
end Go.Proofs.Ytnpmdchphaenaaa
/- Small things for the walks over a group. -- maps -/
namespace Go.Proofs.Ytnpmdchphaenaaa
open Go.RowKit
set_option linter.unusedVariables false
set_option linter.unusedSimpArgs false
theorem OwnK.oneM {W : World} {B g : Nat} {T : TypeId} {t : M9} (h : RowK W g (mC t) T) (hB : B ≤ g) : OwnK W B T 9 (.slice (some ⟨g, 0, none⟩) 1 1) 1 (mCs [t]) :=
  ⟨⟨by simp [mCs, mC], .inr ⟨g, 1, mC t, rfl, hB, h.out, by omega, by first | exact mC_one t | decide, rfl, by simp [mCs, mC]⟩⟩⟩
def OutA (p : Int) (ms : List M9) (r e : Int) : Prop := (∃ K, GoodA p ms K ∧ (seqA p ms K).length = K ∧ r = (K : Int) ∧ e = 0) ∨ (∃ I, GoodA p ms I ∧ I < (seqA p ms I).length ∧ 200 < (seqA p ms (I + 1)).length ∧ r = 0 ∧ e = 3)
theorem OutA.limit {p : Int} {ms : List M9} {r e : Int} (h : OutA p ms r e) {i : Nat} (hg : GoodA p ms i) (hi : i < (seqA p ms i).length) (hl : 200 < (seqA p ms (i + 1)).length) : r = 0 ∧ e = 3 := by
  rcases h with ⟨K, hK, hk, -, -⟩ | ⟨_, _, _, _, hr, he⟩
  · exfalso
    rcases Nat.lt_trichotomy i K with h1 | h1 | h1
    · have := (hK i h1).2; omega
    · subst h1; omega
    · have := (hg K h1).1; omega
  · exact ⟨hr, he⟩
theorem OutA.whole {p : Int} {ms : List M9} {r e : Int} (h : OutA p ms r e) {i : Nat} (hg : GoodA p ms i) (hi : (seqA p ms i).length = i) : r = (i : Int) ∧ e = 0 := by
  rcases h with ⟨K, hK, hk, hr, he⟩ | ⟨I, hI, h2, h3, _, _⟩
  · rcases Nat.lt_trichotomy i K with h1 | h1 | h1
    · have := (hK i h1).1; omega
    · subst h1; exact ⟨hr, he⟩
    · have := (hg K h1).1; omega
  · exfalso
    rcases Nat.lt_trichotomy i I with h1 | h1 | h1
    · have := (hI i h1).1; omega
    · subst h1; omega
    · have := (hg I h1).2; omega
theorem innA_at {p : Int} {ms A : List M9} {x : M9} {i : Nat} (hi : i < A.length) (k : Nat) : (innA p ms A x k).getD i m0 = A.getD i m0 := pre_at (innA_pre p ms A x k) hi
theorem seqA_succ {p : Int} {ms A : List M9} {x : M9} {i n : Nat} (hA : seqA p ms i = A) (hx : A.getD i m0 = x) (hn : ms.length = n) : seqA p ms (i + 1) = innA p ms A x n := by
  show innA p ms (seqA p ms i) ((seqA p ms i).getD i m0) ms.length = _
  rw [hA, hx, hn]
theorem innA_succ {p : Int} {ms A : List M9} {x y t : M9} {k : Nat} (hy : ms.getD k m0 = y) (ht : timesM p x y = t) : innA p ms A x (k + 1) = if t ∈ innA p ms A x k then innA p ms A x k else innA p ms A x k ++ [t] := by
  show stepA p (innA p ms A x k) x (ms.getD k m0) = _
  rw [hy]; unfold stepA; rw [ht]
theorem seqA_pos (p : Int) (ms : List M9) : ∀ i : Nat, 0 < (seqA p ms i).length
  | 0 => Nat.zero_lt_one
  | i + 1 => Nat.lt_of_lt_of_le (seqA_pos p ms i) (innA_pre p ms (seqA p ms i) _ _).length_le
theorem Of.or {S : Array Bool} (j : Nat) : Of S j ∨ On S j := by
  cases h : S.getD j false with
  | false => exact .inl ⟨h⟩
  | true => exact .inr ⟨h⟩
theorem GoMapK.drew {W : World} {g : Nat} {L : List M9} (h : GoMapK W g L) : GoMapK W.drew g L := h.blk rfl
theorem GoMapK.set2 {W : World} {g b : Nat} {U : Array Value} {L : List M9} (hne : g ≠ b) (h : GoMapK W g L) : GoMapK (W.setRow b U) g L := h.set hne
theorem findGom {W : World} {g : Nat} {L : List M9} (h : GoMapK W g L := by repeat (first | with_reducible assumption | (apply GoMapK.link; (· with_reducible assumption)) | with_reducible apply GoMapK.alloc | with_reducible apply GoMapK.drew | ((with_reducible apply GoMapK.set2); (· first | assumption | omega | (simp; omega))))) : GoMapK W g L := h
end Go.Proofs.Ytnpmdchphaenaaa
/- Contracts: the program's orbits. -- maps -- boxmaps -- classes -/
namespace Go.Proofs.Ytnpmdchphaenaaa
open Go.RowKit
set_option linter.unusedVariables false
set_option linter.unusedSimpArgs false
theorem allPoints_K (n : Nat) (w : World) (h : 3 ≤ n ∧ n ≤ 13) : Calls Try.prog 36 #[.int .i64 (n : Int)] w (fun e w' => ∃ g cap, e = .returned (.slice (some ⟨g, 0, none⟩) (allP n).length cap) ∧ w.heap.size ≤ g ∧ g < w'.heap.size ∧ PtsK w' g 0 (allP n).length (allP n) ∧ LowK w w') :=
  (allPoints_any n w h).mono fun e w' hp => by
    obtain ⟨v, rfl, ho, hb⟩ := hp.out
    obtain ⟨g, cap, rfl, h1, h2, h3⟩ := OwnK.pts ⟨ho⟩ rfl (by rw [allP_length]; omega)
    exact ⟨g, cap, rfl, h1, h2, h3, ⟨hb⟩⟩
theorem image_I {p : Int} {m : M9} {a r : Pt} (w : World) (hr : imgP p m a = r) (hp : prB p = true) (hm : InM m) (ha : In13 a) : Calls Try.prog 37 #[.int .i64 p, mV m, pV a] w (Ret w (pV r)) := by rw [← hr]; exact image_any p m a w hp hm ha
set_option pp.deepTerms false
set_option pp.deepTerms.threshold 10
set_option maxRecDepth 20000 in
set_option maxHeartbeats 8000000 in
theorem orbits_I (n N : Nat) (L : List Pt) (b : Option Addr) (k c : Nat) (ms : List M9) (w : World) (h : MsOk n ms) (hk : k ≤ 8) (hms : ListM w b k ms) (hL : allP n = L) (hN : L.length = N) (hnd : L.Nodup) :
    Calls Try.prog 16 #[.int .i64 (n : Int), .slice b k c] w (OrbsPost w (tabL (classP n ms) L N N)) := by
  obtain ⟨h3, h13⟩ := h.n13
  have hml := hms.out.1
  have hN183 : N ≤ 183 := by rw [← hN, ← hL]; exact allP_len183 h13
  have hN0 : 0 < N := by rw [← hN, ← hL, allP_length]; omega
  have hL13 : ∀ a ∈ L, In13 a := by rw [← hL]; exact allP_in h13
  have HH := Lib.hid h
  have HAP := Lib.hid (fun w => allPoints_K n w h.n13)
  rw [hL, hN] at HAP
  have hp := h.pr
  have hin : ∀ m ∈ ms, InM m := fun m hm => okM_inM (h.ok m hm)
  have HND := Lib.hid hnd
  have HL := Lib.hid hL
  have HN := Lib.hid hN
  clear h hnd hL hN
  go_enter Try.func16, Try.ntmps16
  go_wp2_with (first | (refine wl_loadJ ?_) | (refine wl_load ?_) | (refine wl_loadM ?_) | (refine wl_storeJ ?_) | (refine wl_mapNewP ?_) | (refine wl_mapUpdP (L := ?_) ?_ ?_ ?_ ?_ (ho := .inl rfl); rotate_left 2; exact findGomP; assumption; assumption; intro Wm hMm hTm; have hs := hTm.out.1; (try simp at hs); (try have hOm := OwnK.turnP hTm findGomP findOwn); (try have hVm := LowK.turnP hTm (by assumption) findLow)) | (refine wl_fill1 ?_) | (refine wl_fill2 ?_) | (refine wl_storeM ?_) | (refine wl_makeM ?_; intro gm W' hgm hl hT; have hs := hl.out.size; (try simp at hs)) | (refine wl_store (h1 := mC_one _) ?_) | (refine wl_store ?_) | (refine wl_build ?_) | (refine wl_slice ?_) | (refine wl_append (he := eltSp) ?_; intro v' w' ho hg hb; have hs := hg.size; (try simp at hs)) | (refine wl_append ?_; intro v' w' ho hg hb; have hs := hg.size; (try simp at hs); (try rw [ptCs_end] at ho); (try rw [ints_end] at ho); (try simp only [Nat.zero_add, Nat.reduceAdd, List.nil_append, List.cons_append] at ho)) | (go_at_call 36; (with_reducible refine (HAP.out _).mono ?_); rintro e w' ⟨gp, cp, rfl, hgp, hgp2, hPt, hV1⟩; have hs := hV1.size) | ((with_reducible apply region_gd (id := 15)); refine region_QA (id := 15) 15 ?_; apply Exists.intro; refine ⟨fun G => ?_, fun W hl => ?_⟩; (· (simp only [List.take_succ_cons, List.take_zero]; (repeat (first | go_big_quiet_skip | (go_big_quiet_want; first | (refine q_loadJ ?_; simp only [Act.put, List.setIfInBounds_toArray, List.set_cons_zero, List.set_cons_succ]; go_big_quiet_on) | (refine q_mapLookP (L := ?_) (v := ?_) ?_ ?_ ?_ (ho := rfl); rotate_left 3; exact findGomP; exact (show RowKit.Hid _ from by assumption).out; simp only [Act.put, List.setIfInBounds_toArray, List.set_cons_zero, List.set_cons_succ]; go_big_quiet_on) | (refine q_load ?_; simp only [Act.put, List.setIfInBounds_toArray, List.set_cons_zero, List.set_cons_succ]; go_big_quiet_on) | (go_big_quiet_op; first | go_big_quiet_on)))); exact rfl)); have hs := hl.out.size; (try simp at hs); simp only [List.drop_succ_cons, List.drop_zero]))
  have hM0 : GoMapP ((w'.alloc (.map #[] 0)).alloc (.cells #[] 3)) w'.heap.size (L.take 0) := (GoMapP.new w').alloc _
  have hr0 : RowK ((w'.alloc (.map #[] 0)).alloc (.cells #[] 3)) (w'.heap.size + 1) #[] 3 := findRow
  have hO0 : OwnK ((w'.alloc (.map #[] 0)).alloc (.cells #[] 3)) w'.heap.size 3 1 (.slice (some ⟨w'.heap.size + 1, 0, none⟩) 0 0) 0 (ints (upI 0)) := OwnK.empty hr0 (by omega)
  have hV2 : LowK w' ((w'.alloc (.map #[] 0)).alloc (.cells #[] 3)) := findLow
  have hsz2 : w'.heap.size ≤ ((w'.alloc (.map #[] 0)).alloc (.cells #[] 3)).heap.size := hV2.size
  clear hr0
  generalize (w'.alloc (.map #[] 0)).alloc (.cells #[] 3) = W1 at *
  obtain ⟨B, hB⟩ : ∃ B, w'.heap.size = B := ⟨_, rfl⟩
  have hBw := Nat.le_of_eq hB
  have hBw2 := Nat.le_of_eq hB.symm
  rw [hB] at hO0 hsz2 hM0 ⊢
  generalize B + 1 = B1 at *
  go_loopw [7, 28] (fun v iv wr => ∃ q : Nat, q ≤ N ∧ iv = .int .i64 (q : Int) ∧ OwnK wr B 3 1 v q (ints (upI q)) ∧ GoMapP wr B (L.take q) ∧ LowK w' wr ∧ B ≤ wr.heap.size) (fun _ iv wr => N - (intOf iv).toNat)
  case atStart => exact ⟨0, Nat.zero_le _, rfl, hO0, hM0, findLow, (by first | omega | (simp; omega))⟩
  case round =>
    clear hO0 hM0 hV2 hsz2
    obtain ⟨q, hq, rfl, hO, hM, hV, hsz⟩ := hrel
    by_cases hlt : q < N
    · obtain ⟨t, ht⟩ : ∃ t, L.getD q (0, 0, 0) = t := ⟨_, rfl⟩
      have htn := take_new HND.out (by rw [HN.out]; exact hlt) ht
      have HT := Lib.hid (take_snoc (by rw [HN.out]; exact hlt) ht)
      have HQ : Hid (((L.take q).length : Int) = (q : Int)) := Lib.hid (by rw [List.length_take, HN.out]; omega)
      generalize L.take q = Lq at *
      have hMl := hM.lt
      have hPr := PtsK.link (LowK.lnk hV) hPt
      go_wp2_with (first | (refine wl_loadJ ?_) | (refine wl_load ?_) | (refine wl_loadM ?_) | (refine wl_storeJ ?_) | (refine wl_mapNewP ?_) | (refine wl_mapUpdP (L := ?_) ?_ ?_ ?_ ?_ (ho := .inl rfl); rotate_left 2; exact findGomP; assumption; assumption; intro Wm hMm hTm; have hs := hTm.out.1; (try simp at hs); (try have hOm := OwnK.turnP hTm findGomP findOwn); (try have hVm := LowK.turnP hTm (by assumption) findLow)) | (refine wl_fill1 ?_) | (refine wl_fill2 ?_) | (refine wl_storeM ?_) | (refine wl_makeM ?_; intro gm W' hgm hl hT; have hs := hl.out.size; (try simp at hs)) | (refine wl_store (h1 := mC_one _) ?_) | (refine wl_store ?_) | (refine wl_build ?_) | (refine wl_slice ?_) | (refine wl_append (he := eltSp) ?_; intro v' w' ho hg hb; have hs := hg.size; (try simp at hs)) | (refine wl_append ?_; intro v' w' ho hg hb; have hs := hg.size; (try simp at hs); (try rw [ptCs_end] at ho); (try rw [ints_end] at ho); (try simp only [Nat.zero_add, Nat.reduceAdd, List.nil_append, List.cons_append] at ho)) | ((with_reducible apply region_gd (id := 15)); refine region_QA (id := 15) 15 ?_; apply Exists.intro; refine ⟨fun G => ?_, fun W hl => ?_⟩; (· (simp only [List.take_succ_cons, List.take_zero]; (repeat (first | go_big_quiet_skip | (go_big_quiet_want; first | (refine q_loadJ ?_; simp only [Act.put, List.setIfInBounds_toArray, List.set_cons_zero, List.set_cons_succ]; go_big_quiet_on) | (refine q_mapLookP (L := ?_) (v := ?_) ?_ ?_ ?_ (ho := rfl); rotate_left 3; exact findGomP; exact (show RowKit.Hid _ from by assumption).out; simp only [Act.put, List.setIfInBounds_toArray, List.set_cons_zero, List.set_cons_succ]; go_big_quiet_on) | (refine q_load ?_; simp only [Act.put, List.setIfInBounds_toArray, List.set_cons_zero, List.set_cons_succ]; go_big_quiet_on) | (go_big_quiet_op; first | go_big_quiet_on)))); exact rfl)); have hs := hl.out.size; (try simp at hs); simp only [List.drop_succ_cons, List.drop_zero]))
      go_roundw
      case rel => exact ⟨q + 1, by omega, by go_num, by rw [← upI_succ]; exact ho, by rw [← HT.out]; exact (hMm.alloc _).grew hg findOwn, findLow, (by first | omega | (simp; omega))⟩
      case measure => (simp [intOf]; try omega)
    · obtain rfl : N = q := by omega
      obtain ⟨gc, cc, rfl, hgc, hR⟩ := rowJ_own hO (upI_length N) hN0
      rw [List.take_of_length_le (by rw [HN.out]; omega)] at hM
      have hR : RowJ wr gc cc N (fun j => ((clsP n ms 0 j : Nat) : Int)) := hR.congr (fun j hj => upI_at hj)
      have hneM := hM.neJ hR
      have hP0 := PtsK.link (LowK.lnk hV) hPt
      have hneP : gp ≠ gc := by omega
      have hV0 := LowK.link (LowK.lnk hV) hV1
      have hwgc : w.heap.size ≤ gc := by omega
      have HAL : Hid ((allP n).length = N) := Lib.hid (by rw [HL.out, HN.out])
      clear hO hPt hV hsz
      obtain ⟨W0, hW0⟩ : ∃ W0, W0 = wr := ⟨_, rfl⟩
      subst hW0
      go_wp2_with (first | (refine wl_loadJ ?_) | (refine wl_load ?_) | (refine wl_loadM ?_) | (refine wl_storeJ ?_) | (refine wl_mapNewP ?_) | (refine wl_mapUpdP (L := ?_) ?_ ?_ ?_ ?_ (ho := .inl rfl); rotate_left 2; exact findGomP; assumption; assumption; intro Wm hMm hTm; have hs := hTm.out.1; (try simp at hs); (try have hOm := OwnK.turnP hTm findGomP findOwn); (try have hVm := LowK.turnP hTm (by assumption) findLow)) | (refine wl_fill1 ?_) | (refine wl_fill2 ?_) | (refine wl_storeM ?_) | (refine wl_makeM ?_; intro gm W' hgm hl hT; have hs := hl.out.size; (try simp at hs)) | (refine wl_store (h1 := mC_one _) ?_) | (refine wl_store ?_) | (refine wl_build ?_) | (refine wl_slice ?_) | (refine wl_append (he := eltSp) ?_; intro v' w' ho hg hb; have hs := hg.size; (try simp at hs)) | (refine wl_append ?_; intro v' w' ho hg hb; have hs := hg.size; (try simp at hs); (try rw [ptCs_end] at ho); (try rw [ints_end] at ho); (try simp only [Nat.zero_add, Nat.reduceAdd, List.nil_append, List.cons_append] at ho)) | ((with_reducible apply region_gd (id := 15)); refine region_QA (id := 15) 15 ?_; apply Exists.intro; refine ⟨fun G => ?_, fun W hl => ?_⟩; (· (simp only [List.take_succ_cons, List.take_zero]; (repeat (first | go_big_quiet_skip | (go_big_quiet_want; first | (refine q_loadJ ?_; simp only [Act.put, List.setIfInBounds_toArray, List.set_cons_zero, List.set_cons_succ]; go_big_quiet_on) | (refine q_mapLookP (L := ?_) (v := ?_) ?_ ?_ ?_ (ho := rfl); rotate_left 3; exact findGomP; exact (show RowKit.Hid _ from by assumption).out; simp only [Act.put, List.setIfInBounds_toArray, List.set_cons_zero, List.set_cons_succ]; go_big_quiet_on) | (refine q_load ?_; simp only [Act.put, List.setIfInBounds_toArray, List.set_cons_zero, List.set_cons_succ]; go_big_quiet_on) | (go_big_quiet_op; first | go_big_quiet_on)))); exact rfl)); have hs := hl.out.size; (try simp at hs); simp only [List.drop_succ_cons, List.drop_zero]))
      go_loopw [43] (fun kv wi => ∃ q : Nat, q ≤ k ∧ kv = .int .i64 (q : Int) ∧ RowJ wi gc cc N (fun j => ((clsP n ms q j : Nat) : Int)) ∧ ButK gc W0 wi) (fun kv wi => k - (intOf kv).toNat)
      case atStart => exact ⟨0, Nat.zero_le _, rfl, hR, ButK.refl _ _⟩
      case round =>
        clear hR
        obtain ⟨q, hq, rfl, hR, hB1⟩ := hrel
        have hVi := LowK.but hB1 hwgc hV0
        by_cases hlk : q < k
        · obtain ⟨y, hy⟩ : ∃ y, ms.getD q m0 = y := ⟨_, rfl⟩
          have hyi : InM y := by rw [← hy]; exact hin _ (getM_mem (by omega))
          obtain ⟨gb, off, rfl, hma⟩ := hms.out.2 (by omega)
          have r1 : RangeK wr gb (off + q * 9) (mC y) := by rw [← hy]; exact (hma.at_ hlk).viaLow hVi
          have HY := Lib.hid hy
          clear hy
          go_wp2_with (first | (refine wl_loadJ ?_) | (refine wl_load ?_) | (refine wl_loadM ?_) | (refine wl_storeJ ?_) | (refine wl_mapNewP ?_) | (refine wl_mapUpdP (L := ?_) ?_ ?_ ?_ ?_ (ho := .inl rfl); rotate_left 2; exact findGomP; assumption; assumption; intro Wm hMm hTm; have hs := hTm.out.1; (try simp at hs); (try have hOm := OwnK.turnP hTm findGomP findOwn); (try have hVm := LowK.turnP hTm (by assumption) findLow)) | (refine wl_fill1 ?_) | (refine wl_fill2 ?_) | (refine wl_storeM ?_) | (refine wl_makeM ?_; intro gm W' hgm hl hT; have hs := hl.out.size; (try simp at hs)) | (refine wl_store (h1 := mC_one _) ?_) | (refine wl_store ?_) | (refine wl_build ?_) | (refine wl_slice ?_) | (refine wl_append (he := eltSp) ?_; intro v' w' ho hg hb; have hs := hg.size; (try simp at hs)) | (refine wl_append ?_; intro v' w' ho hg hb; have hs := hg.size; (try simp at hs); (try rw [ptCs_end] at ho); (try rw [ints_end] at ho); (try simp only [Nat.zero_add, Nat.reduceAdd, List.nil_append, List.cons_append] at ho)) | ((with_reducible apply region_gd (id := 15)); refine region_QA (id := 15) 15 ?_; apply Exists.intro; refine ⟨fun G => ?_, fun W hl => ?_⟩; (· (simp only [List.take_succ_cons, List.take_zero]; (repeat (first | go_big_quiet_skip | (go_big_quiet_want; first | (refine q_loadJ ?_; simp only [Act.put, List.setIfInBounds_toArray, List.set_cons_zero, List.set_cons_succ]; go_big_quiet_on) | (refine q_mapLookP (L := ?_) (v := ?_) ?_ ?_ ?_ (ho := rfl); rotate_left 3; exact findGomP; exact (show RowKit.Hid _ from by assumption).out; simp only [Act.put, List.setIfInBounds_toArray, List.set_cons_zero, List.set_cons_succ]; go_big_quiet_on) | (refine q_load ?_; simp only [Act.put, List.setIfInBounds_toArray, List.set_cons_zero, List.set_cons_succ]; go_big_quiet_on) | (go_big_quiet_op; first | go_big_quiet_on)))); exact rfl)); have hs := hl.out.size; (try simp at hs); simp only [List.drop_succ_cons, List.drop_zero]))
          have hbx : RowK ((wr.alloc (.cells #[.int .i64 0, .int .i64 0, .int .i64 0, .int .i64 0, .int .i64 0, .int .i64 0, .int .i64 0, .int .i64 0, .int .i64 0] 47)).setRow wr.heap.size (mC y)) wr.heap.size (mC y) 47 := findRow
          have hV2 : LowK wr ((wr.alloc (.cells #[.int .i64 0, .int .i64 0, .int .i64 0, .int .i64 0, .int .i64 0, .int .i64 0, .int .i64 0, .int .i64 0, .int .i64 0] 47)).setRow wr.heap.size (mC y)) := findLow
          obtain ⟨gx, hgx⟩ : ∃ gx, gx = wr.heap.size := ⟨_, rfl⟩
          have hgc3 : gc < wr.heap.size := hR.lt
          rw [← hgx] at hbx hgc3 ⊢
          rw [← hgx] at hV2
          generalize (wr.alloc (.cells #[.int .i64 0, .int .i64 0, .int .i64 0, .int .i64 0, .int .i64 0, .int .i64 0, .int .i64 0, .int .i64 0, .int .i64 0] 47)).setRow gx (mC y) = W2 at *
          have hR2 := RowJ.link (LowK.lnk hV2) hR
          have hB2 := ButK.low hV2 hB1
          have hgxne : gx ≠ gc := by omega
          have hpb : B ≠ gc := hneM
          clear hR hV2 hgx
          go_loopw [49] (fun iv wj => ∃ i : Nat, i ≤ N ∧ iv = .int .i64 (i : Int) ∧ RowJ wj gc cc N (fun j => ((rowU (ixP n ms q) (clsP n ms q) i j : Nat) : Int)) ∧ ButK gc W2 wj) (fun iv wj => N - (intOf iv).toNat)
          case atStart => exact ⟨0, Nat.zero_le _, rfl, hR2, ButK.refl _ _⟩
          case round =>
            clear hR2
            obtain ⟨i, hi, rfl, hR, hB3⟩ := hrel
            have hB4 := hB3.tr hB2
            have hbr := RowK.but hB3 hgxne hbx
            have hbrl := hbr.lt
            by_cases hli : i < N
            · obtain ⟨t, ht⟩ : ∃ t, L.getD i (0, 0, 0) = t := ⟨_, rfl⟩
              obtain ⟨u, hu⟩ : ∃ u, imgP n y t = u := ⟨_, rfl⟩
              obtain ⟨ix, hix⟩ : ∃ ix, ixP n ms q i = ix := ⟨_, rfl⟩
              have hpl : ix < N ∧ L.getD ix p0 = u := by
                have := ixP_at HH.out (show q < ms.length by omega) (show i < (allP n).length by rw [HAL.out]; exact hli)
                rw [HAL.out, HL.out, hix, HY.out, show L.getD i p0 = t from ht, hu] at this
                exact this
              have hul := place_of HND.out (by rw [HN.out]; exact hpl.1) hpl.2
              have ht13 : In13 t := by rw [← ht]; exact hL13 _ (getD_mem (by rw [HN.out]; exact hli))
              obtain ⟨f, hf⟩ : ∃ f, rowU (ixP n ms q) (clsP n ms q) i = f := ⟨_, rfl⟩
              obtain ⟨a1, ha1⟩ : ∃ a1, f i = a1 := ⟨_, rfl⟩
              obtain ⟨a2, ha2⟩ : ∃ a2, f ix = a2 := ⟨_, rfl⟩
              have HF := Lib.hid (rowU_next hf hix ha1 ha2)
              rw [hf] at hR
              have c1 : CellK wr gc i (.int .i64 (a1 : Int)) := by rw [← ha1]; exact hR.cell hli
              have c2 : CellK wr gc ix (.int .i64 (a2 : Int)) := by rw [← ha2]; exact hR.cell hpl.1
              have hPr := PtsK.but hB4 hneP hP0
              have hMr := GoMapP.but hB4 hneM hM
              have HU := Lib.hid hu
              have hixN := hpl.1
              have HUL := Lib.hid hul
              clear hu hpl hix hul
              by_cases he : (a1 : Int) = (a2 : Int)
              · have HE : Hid (mrg f a1 a2 = f) := Lib.hid (by rw [show a1 = a2 by omega]; exact mrg_self f a2)
                go_wp2_with (first | (refine wl_loadJ ?_) | (refine wl_load ?_) | (refine wl_loadM ?_) | (refine wl_storeJ ?_) | (refine wl_mapNewP ?_) | (refine wl_mapUpdP (L := ?_) ?_ ?_ ?_ ?_ (ho := .inl rfl); rotate_left 2; exact findGomP; assumption; assumption; intro Wm hMm hTm; have hs := hTm.out.1; (try simp at hs); (try have hOm := OwnK.turnP hTm findGomP findOwn); (try have hVm := LowK.turnP hTm (by assumption) findLow)) | (refine wl_fill1 ?_) | (refine wl_fill2 ?_) | (refine wl_storeM ?_) | (refine wl_makeM ?_; intro gm W' hgm hl hT; have hs := hl.out.size; (try simp at hs)) | (refine wl_store (h1 := mC_one _) ?_) | (refine wl_store ?_) | (refine wl_build ?_) | (refine wl_slice ?_) | (refine wl_append (he := eltSp) ?_; intro v' w' ho hg hb; have hs := hg.size; (try simp at hs)) | (refine wl_append ?_; intro v' w' ho hg hb; have hs := hg.size; (try simp at hs); (try rw [ptCs_end] at ho); (try rw [ints_end] at ho); (try simp only [Nat.zero_add, Nat.reduceAdd, List.nil_append, List.cons_append] at ho)) | (go_at_call 37; (with_reducible refine (image_I _ HU.out hp hyi ht13).mono ?_); rintro e w' ⟨rfl, hb⟩; have hl := Link.mk hb; have hs := hb.size; (try simp at hs); clear hb) | ((with_reducible apply region_gd (id := 15)); refine region_QA (id := 15) 15 ?_; apply Exists.intro; refine ⟨fun G => ?_, fun W hl => ?_⟩; (· (simp only [List.take_succ_cons, List.take_zero]; (repeat (first | go_big_quiet_skip | (go_big_quiet_want; first | (refine q_loadJ ?_; simp only [Act.put, List.setIfInBounds_toArray, List.set_cons_zero, List.set_cons_succ]; go_big_quiet_on) | (refine q_mapLookP (L := ?_) (v := ?_) ?_ ?_ ?_ (ho := rfl); rotate_left 3; exact findGomP; exact (show RowKit.Hid _ from by assumption).out; simp only [Act.put, List.setIfInBounds_toArray, List.set_cons_zero, List.set_cons_succ]; go_big_quiet_on) | (refine q_load ?_; simp only [Act.put, List.setIfInBounds_toArray, List.set_cons_zero, List.set_cons_succ]; go_big_quiet_on) | (go_big_quiet_op; first | go_big_quiet_on | (apply Exists.intro; refine ⟨fun g => ?_, ?_⟩; (· (have hl := growL g; first | (go_at_call 37; with_reducible exact grow_ret (image_I _ HU.out hp hyi ht13)))); go_big_quiet_on))))); exact rfl)); have hs := hl.out.size; (try simp at hs); simp only [List.drop_succ_cons, List.drop_zero]))
                go_roundw
                case rel => exact ⟨i + 1, by omega, by go_num, by rw [HF.out, HE.out]; exact RowJ.link (LowK.lnk findLow) hR, ButK.low findLow hB3⟩
                case measure => (simp [intOf]; try omega)
              · have hE : ((a1 : Int) == (a2 : Int)) = false := beqf he
                clear he
                go_wp2_with (first | (refine wl_loadJ ?_) | (refine wl_load ?_) | (refine wl_loadM ?_) | (refine wl_storeJ ?_) | (refine wl_mapNewP ?_) | (refine wl_mapUpdP (L := ?_) ?_ ?_ ?_ ?_ (ho := .inl rfl); rotate_left 2; exact findGomP; assumption; assumption; intro Wm hMm hTm; have hs := hTm.out.1; (try simp at hs); (try have hOm := OwnK.turnP hTm findGomP findOwn); (try have hVm := LowK.turnP hTm (by assumption) findLow)) | (refine wl_fill1 ?_) | (refine wl_fill2 ?_) | (refine wl_storeM ?_) | (refine wl_makeM ?_; intro gm W' hgm hl hT; have hs := hl.out.size; (try simp at hs)) | (refine wl_store (h1 := mC_one _) ?_) | (refine wl_store ?_) | (refine wl_build ?_) | (refine wl_slice ?_) | (refine wl_append (he := eltSp) ?_; intro v' w' ho hg hb; have hs := hg.size; (try simp at hs)) | (refine wl_append ?_; intro v' w' ho hg hb; have hs := hg.size; (try simp at hs); (try rw [ptCs_end] at ho); (try rw [ints_end] at ho); (try simp only [Nat.zero_add, Nat.reduceAdd, List.nil_append, List.cons_append] at ho)) | (go_at_call 37; (with_reducible refine (image_I _ HU.out hp hyi ht13).mono ?_); rintro e w' ⟨rfl, hb⟩; have hl := Link.mk hb; have hs := hb.size; (try simp at hs); clear hb) | ((with_reducible apply region_gd (id := 15)); refine region_QA (id := 15) 15 ?_; apply Exists.intro; refine ⟨fun G => ?_, fun W hl => ?_⟩; (· (simp only [List.take_succ_cons, List.take_zero]; (repeat (first | go_big_quiet_skip | (go_big_quiet_want; first | (refine q_loadJ ?_; simp only [Act.put, List.setIfInBounds_toArray, List.set_cons_zero, List.set_cons_succ]; go_big_quiet_on) | (refine q_mapLookP (L := ?_) (v := ?_) ?_ ?_ ?_ (ho := rfl); rotate_left 3; exact findGomP; exact (show RowKit.Hid _ from by assumption).out; simp only [Act.put, List.setIfInBounds_toArray, List.set_cons_zero, List.set_cons_succ]; go_big_quiet_on) | (refine q_load ?_; simp only [Act.put, List.setIfInBounds_toArray, List.set_cons_zero, List.set_cons_succ]; go_big_quiet_on) | (go_big_quiet_op; first | go_big_quiet_on | (apply Exists.intro; refine ⟨fun g => ?_, ?_⟩; (· (have hl := growL g; first | (go_at_call 37; with_reducible exact grow_ret (image_I _ HU.out hp hyi ht13)))); go_big_quiet_on))))); exact rfl)); have hs := hl.out.size; (try simp at hs); simp only [List.drop_succ_cons, List.drop_zero]))
                have hR4 : RowJ W gc cc N (fun j => ((f j : Nat) : Int)) := RowJ.link (LowK.lnk findLow) hR
                have hB5 : ButK gc W2 W := ButK.low findLow hB3
                clear hR c1 c2 hPr hMr hbr hl hs hf ha1 ha2
                obtain ⟨mx, hmx⟩ : ∃ mx : Nat, (if a1 < a2 then ((a2 : Nat) : Int) else ((a1 : Nat) : Int)) = (mx : Int) := ⟨if a1 < a2 then a2 else a1, by split <;> rfl⟩
                obtain ⟨mn, hmn⟩ : ∃ mn : Nat, (if a2 < a1 then ((a2 : Nat) : Int) else ((a1 : Nat) : Int)) = (mn : Int) := ⟨if a2 < a1 then a2 else a1, by split <;> rfl⟩
                have HMG : Hid (∀ l, mrg f a1 a2 l = if f l = mx then mn else f l) := Lib.hid (fun l => by
                  unfold mrg
                  rw [show max a1 a2 = mx by (split at hmx <;> omega), show min a1 a2 = mn by (split at hmn <;> omega)])
                go_loopw [72] (fun jv wk => ∃ j : Nat, j ≤ N ∧ jv = .int .i64 (j : Int) ∧ RowJ wk gc cc N (fun l => ((if l < j then mrg f a1 a2 l else f l : Nat) : Int)) ∧ ButK gc W2 wk) (fun jv wk => N - (intOf jv).toNat)
                case atStart => exact ⟨0, Nat.zero_le _, rfl, hR4.congr (fun l hl => by rw [if_neg (Nat.not_lt_zero _)]), hB5⟩
                case round =>
                  clear hR4 hB5
                  obtain ⟨j, hj, rfl, hR, hB6⟩ := hrel
                  by_cases hlj : j < N
                  · obtain ⟨fj, hfj⟩ : ∃ fj, f j = fj := ⟨_, rfl⟩
                    have c3 : CellK wr gc j (.int .i64 (fj : Int)) := by have := hR.cell hlj; rw [if_neg (Nat.lt_irrefl _), hfj] at this; exact this
                    have c4 := hR.st hlj
                    have HFJ := Lib.hid hfj
                    clear hfj
                    by_cases hfm : (fj : Int) = (mx : Int)
                    · have hq : ((fj : Int) == (mx : Int)) = true := beqt hfm
                      go_wp2_with (first | (refine wl_loadJ ?_) | (refine wl_load ?_) | (refine wl_loadM ?_) | (refine wl_storeJ ?_) | (refine wl_mapNewP ?_) | (refine wl_mapUpdP (L := ?_) ?_ ?_ ?_ ?_ (ho := .inl rfl); rotate_left 2; exact findGomP; assumption; assumption; intro Wm hMm hTm; have hs := hTm.out.1; (try simp at hs); (try have hOm := OwnK.turnP hTm findGomP findOwn); (try have hVm := LowK.turnP hTm (by assumption) findLow)) | (refine wl_fill1 ?_) | (refine wl_fill2 ?_) | (refine wl_storeM ?_) | (refine wl_makeM ?_; intro gm W' hgm hl hT; have hs := hl.out.size; (try simp at hs)) | (refine wl_store (h1 := mC_one _) ?_) | (refine wl_store ?_) | (refine wl_build ?_) | (refine wl_slice ?_) | (refine wl_append (he := eltSp) ?_; intro v' w' ho hg hb; have hs := hg.size; (try simp at hs)) | (refine wl_append ?_; intro v' w' ho hg hb; have hs := hg.size; (try simp at hs); (try rw [ptCs_end] at ho); (try rw [ints_end] at ho); (try simp only [Nat.zero_add, Nat.reduceAdd, List.nil_append, List.cons_append] at ho)) | ((with_reducible apply region_gd (id := 15)); refine region_QA (id := 15) 15 ?_; apply Exists.intro; refine ⟨fun G => ?_, fun W hl => ?_⟩; (· (simp only [List.take_succ_cons, List.take_zero]; (repeat (first | go_big_quiet_skip | (go_big_quiet_want; first | (refine q_loadJ ?_; simp only [Act.put, List.setIfInBounds_toArray, List.set_cons_zero, List.set_cons_succ]; go_big_quiet_on) | (refine q_mapLookP (L := ?_) (v := ?_) ?_ ?_ ?_ (ho := rfl); rotate_left 3; exact findGomP; exact (show RowKit.Hid _ from by assumption).out; simp only [Act.put, List.setIfInBounds_toArray, List.set_cons_zero, List.set_cons_succ]; go_big_quiet_on) | (refine q_load ?_; simp only [Act.put, List.setIfInBounds_toArray, List.set_cons_zero, List.set_cons_succ]; go_big_quiet_on) | (go_big_quiet_op; first | go_big_quiet_on)))); exact rfl)); have hs := hl.out.size; (try simp at hs); simp only [List.drop_succ_cons, List.drop_zero]))
                      go_roundw
                      case rel => exact ⟨j + 1, by omega, by go_num, (hR.set hlj _).congr (fun l hl => mrg_put HMG.out HFJ.out (by omega) hl), hB6.set _ _⟩
                      case measure => (simp [intOf]; try omega)
                    · have hq : ((fj : Int) == (mx : Int)) = false := beqf hfm
                      go_wp2_with (first | (refine wl_loadJ ?_) | (refine wl_load ?_) | (refine wl_loadM ?_) | (refine wl_storeJ ?_) | (refine wl_mapNewP ?_) | (refine wl_mapUpdP (L := ?_) ?_ ?_ ?_ ?_ (ho := .inl rfl); rotate_left 2; exact findGomP; assumption; assumption; intro Wm hMm hTm; have hs := hTm.out.1; (try simp at hs); (try have hOm := OwnK.turnP hTm findGomP findOwn); (try have hVm := LowK.turnP hTm (by assumption) findLow)) | (refine wl_fill1 ?_) | (refine wl_fill2 ?_) | (refine wl_storeM ?_) | (refine wl_makeM ?_; intro gm W' hgm hl hT; have hs := hl.out.size; (try simp at hs)) | (refine wl_store (h1 := mC_one _) ?_) | (refine wl_store ?_) | (refine wl_build ?_) | (refine wl_slice ?_) | (refine wl_append (he := eltSp) ?_; intro v' w' ho hg hb; have hs := hg.size; (try simp at hs)) | (refine wl_append ?_; intro v' w' ho hg hb; have hs := hg.size; (try simp at hs); (try rw [ptCs_end] at ho); (try rw [ints_end] at ho); (try simp only [Nat.zero_add, Nat.reduceAdd, List.nil_append, List.cons_append] at ho)) | ((with_reducible apply region_gd (id := 15)); refine region_QA (id := 15) 15 ?_; apply Exists.intro; refine ⟨fun G => ?_, fun W hl => ?_⟩; (· (simp only [List.take_succ_cons, List.take_zero]; (repeat (first | go_big_quiet_skip | (go_big_quiet_want; first | (refine q_loadJ ?_; simp only [Act.put, List.setIfInBounds_toArray, List.set_cons_zero, List.set_cons_succ]; go_big_quiet_on) | (refine q_mapLookP (L := ?_) (v := ?_) ?_ ?_ ?_ (ho := rfl); rotate_left 3; exact findGomP; exact (show RowKit.Hid _ from by assumption).out; simp only [Act.put, List.setIfInBounds_toArray, List.set_cons_zero, List.set_cons_succ]; go_big_quiet_on) | (refine q_load ?_; simp only [Act.put, List.setIfInBounds_toArray, List.set_cons_zero, List.set_cons_succ]; go_big_quiet_on) | (go_big_quiet_op; first | go_big_quiet_on)))); exact rfl)); have hs := hl.out.size; (try simp at hs); simp only [List.drop_succ_cons, List.drop_zero]))
                      go_roundw
                      case rel => exact ⟨j + 1, by omega, by go_num, hR.congr (fun l hl => mrg_skip HMG.out HFJ.out (by omega) hl), hB6⟩
                      case measure => (simp [intOf]; try omega)
                  · obtain rfl : N = j := by omega
                    have hR7 : RowJ wr gc cc N (fun l => ((mrg f a1 a2 l : Nat) : Int)) := hR.congr (fun l hl => by rw [if_pos hl])
                    clear hR
                    go_wp2_with (first | (refine wl_loadJ ?_) | (refine wl_load ?_) | (refine wl_loadM ?_) | (refine wl_storeJ ?_) | (refine wl_mapNewP ?_) | (refine wl_mapUpdP (L := ?_) ?_ ?_ ?_ ?_ (ho := .inl rfl); rotate_left 2; exact findGomP; assumption; assumption; intro Wm hMm hTm; have hs := hTm.out.1; (try simp at hs); (try have hOm := OwnK.turnP hTm findGomP findOwn); (try have hVm := LowK.turnP hTm (by assumption) findLow)) | (refine wl_fill1 ?_) | (refine wl_fill2 ?_) | (refine wl_storeM ?_) | (refine wl_makeM ?_; intro gm W' hgm hl hT; have hs := hl.out.size; (try simp at hs)) | (refine wl_store (h1 := mC_one _) ?_) | (refine wl_store ?_) | (refine wl_build ?_) | (refine wl_slice ?_) | (refine wl_append (he := eltSp) ?_; intro v' w' ho hg hb; have hs := hg.size; (try simp at hs)) | (refine wl_append ?_; intro v' w' ho hg hb; have hs := hg.size; (try simp at hs); (try rw [ptCs_end] at ho); (try rw [ints_end] at ho); (try simp only [Nat.zero_add, Nat.reduceAdd, List.nil_append, List.cons_append] at ho)) | ((with_reducible apply region_gd (id := 15)); refine region_QA (id := 15) 15 ?_; apply Exists.intro; refine ⟨fun G => ?_, fun W hl => ?_⟩; (· (simp only [List.take_succ_cons, List.take_zero]; (repeat (first | go_big_quiet_skip | (go_big_quiet_want; first | (refine q_loadJ ?_; simp only [Act.put, List.setIfInBounds_toArray, List.set_cons_zero, List.set_cons_succ]; go_big_quiet_on) | (refine q_mapLookP (L := ?_) (v := ?_) ?_ ?_ ?_ (ho := rfl); rotate_left 3; exact findGomP; exact (show RowKit.Hid _ from by assumption).out; simp only [Act.put, List.setIfInBounds_toArray, List.set_cons_zero, List.set_cons_succ]; go_big_quiet_on) | (refine q_load ?_; simp only [Act.put, List.setIfInBounds_toArray, List.set_cons_zero, List.set_cons_succ]; go_big_quiet_on) | (go_big_quiet_op; first | go_big_quiet_on)))); exact rfl)); have hs := hl.out.size; (try simp at hs); simp only [List.drop_succ_cons, List.drop_zero]))
                    go_roundw
                    case rel => exact ⟨i + 1, by omega, by go_num, by rw [HF.out]; exact hR7, hB6⟩
                    case measure => (simp [intOf]; try omega)
            · obtain rfl : N = i := by omega
              have hR7 : RowJ wr gc cc N (fun l => ((clsP n ms (q + 1) l : Nat) : Int)) := by rw [clsP_succ, HAL.out]; exact hR
              clear hR
              go_wp2_with (first | (refine wl_loadJ ?_) | (refine wl_load ?_) | (refine wl_loadM ?_) | (refine wl_storeJ ?_) | (refine wl_mapNewP ?_) | (refine wl_mapUpdP (L := ?_) ?_ ?_ ?_ ?_ (ho := .inl rfl); rotate_left 2; exact findGomP; assumption; assumption; intro Wm hMm hTm; have hs := hTm.out.1; (try simp at hs); (try have hOm := OwnK.turnP hTm findGomP findOwn); (try have hVm := LowK.turnP hTm (by assumption) findLow)) | (refine wl_fill1 ?_) | (refine wl_fill2 ?_) | (refine wl_storeM ?_) | (refine wl_makeM ?_; intro gm W' hgm hl hT; have hs := hl.out.size; (try simp at hs)) | (refine wl_store (h1 := mC_one _) ?_) | (refine wl_store ?_) | (refine wl_build ?_) | (refine wl_slice ?_) | (refine wl_append (he := eltSp) ?_; intro v' w' ho hg hb; have hs := hg.size; (try simp at hs)) | (refine wl_append ?_; intro v' w' ho hg hb; have hs := hg.size; (try simp at hs); (try rw [ptCs_end] at ho); (try rw [ints_end] at ho); (try simp only [Nat.zero_add, Nat.reduceAdd, List.nil_append, List.cons_append] at ho)) | ((with_reducible apply region_gd (id := 15)); refine region_QA (id := 15) 15 ?_; apply Exists.intro; refine ⟨fun G => ?_, fun W hl => ?_⟩; (· (simp only [List.take_succ_cons, List.take_zero]; (repeat (first | go_big_quiet_skip | (go_big_quiet_want; first | (refine q_loadJ ?_; simp only [Act.put, List.setIfInBounds_toArray, List.set_cons_zero, List.set_cons_succ]; go_big_quiet_on) | (refine q_mapLookP (L := ?_) (v := ?_) ?_ ?_ ?_ (ho := rfl); rotate_left 3; exact findGomP; exact (show RowKit.Hid _ from by assumption).out; simp only [Act.put, List.setIfInBounds_toArray, List.set_cons_zero, List.set_cons_succ]; go_big_quiet_on) | (refine q_load ?_; simp only [Act.put, List.setIfInBounds_toArray, List.set_cons_zero, List.set_cons_succ]; go_big_quiet_on) | (go_big_quiet_op; first | go_big_quiet_on)))); exact rfl)); have hs := hl.out.size; (try simp at hs); simp only [List.drop_succ_cons, List.drop_zero]))
              go_roundw
              case rel => exact ⟨q + 1, by omega, by go_num, hR7, hB4⟩
              case measure => (simp [intOf]; try omega)
        · obtain rfl : k = q := by omega
          have hPc := PtsK.but hB1 hneP hP0
          have hclk : clsP n ms k = classP n ms := by rw [← hml]; rfl
          rw [hclk] at hR
          obtain ⟨cls, hcls⟩ : ∃ cls, classP n ms = cls := ⟨_, rfl⟩
          rw [hcls] at hR ⊢
          have HCL := Lib.hid hcls
          have hB0 := hB1.size
          clear hP0 hM hcls hclk hB1
          obtain ⟨Wc, hWc⟩ : ∃ Wc, Wc = wr := ⟨_, rfl⟩
          subst hWc
          go_wp2_with (first | (refine wl_loadJ ?_) | (refine wl_load ?_) | (refine wl_loadM ?_) | (refine wl_storeJ ?_) | (refine wl_mapNewP ?_) | (refine wl_mapUpdP (L := ?_) ?_ ?_ ?_ ?_ (ho := .inl rfl); rotate_left 2; exact findGomP; assumption; assumption; intro Wm hMm hTm; have hs := hTm.out.1; (try simp at hs); (try have hOm := OwnK.turnP hTm findGomP findOwn); (try have hVm := LowK.turnP hTm (by assumption) findLow)) | (refine wl_fill1 ?_) | (refine wl_fill2 ?_) | (refine wl_storeM ?_) | (refine wl_makeM ?_; intro gm W' hgm hl hT; have hs := hl.out.size; (try simp at hs)) | (refine wl_store (h1 := mC_one _) ?_) | (refine wl_store ?_) | (refine wl_build ?_) | (refine wl_slice ?_) | (refine wl_append (he := eltSp) ?_; intro v' w' ho hg hb; have hs := hg.size; (try simp at hs)) | (refine wl_append ?_; intro v' w' ho hg hb; have hs := hg.size; (try simp at hs); (try rw [ptCs_end] at ho); (try rw [ints_end] at ho); (try simp only [Nat.zero_add, Nat.reduceAdd, List.nil_append, List.cons_append] at ho)) | ((with_reducible apply region_gd (id := 15)); refine region_QA (id := 15) 15 ?_; apply Exists.intro; refine ⟨fun G => ?_, fun W hl => ?_⟩; (· (simp only [List.take_succ_cons, List.take_zero]; (repeat (first | go_big_quiet_skip | (go_big_quiet_want; first | (refine q_loadJ ?_; simp only [Act.put, List.setIfInBounds_toArray, List.set_cons_zero, List.set_cons_succ]; go_big_quiet_on) | (refine q_mapLookP (L := ?_) (v := ?_) ?_ ?_ ?_ (ho := rfl); rotate_left 3; exact findGomP; exact (show RowKit.Hid _ from by assumption).out; simp only [Act.put, List.setIfInBounds_toArray, List.set_cons_zero, List.set_cons_succ]; go_big_quiet_on) | (refine q_load ?_; simp only [Act.put, List.setIfInBounds_toArray, List.set_cons_zero, List.set_cons_succ]; go_big_quiet_on) | (go_big_quiet_op; first | go_big_quiet_on)))); exact rfl)); have hs := hl.out.size; (try simp at hs); simp only [List.drop_succ_cons, List.drop_zero]))
          have hr0 : RowK (Wc.alloc (.cells #[] 39)) Wc.heap.size #[] 39 := findRow
          have hO0 : OwnK (Wc.alloc (.cells #[] 39)) Wc.heap.size 39 1 (.slice (some ⟨Wc.heap.size, 0, none⟩) 0 0) 0 (tabV []) := OwnK.empty hr0 (Nat.le_refl _)
          have hV2 : LowK Wc (Wc.alloc (.cells #[] 39)) := findLow
          have hT0 : TabK (Wc.alloc (.cells #[] 39)) Wc.heap.size [] := TabK.nil _ _
          have hsz2 : Wc.heap.size ≤ (Wc.alloc (.cells #[] 39)).heap.size := hV2.size
          clear hr0
          generalize Wc.alloc (.cells #[] 39) = W2 at *
          obtain ⟨B2, hB2⟩ : ∃ B2, Wc.heap.size = B2 := ⟨_, rfl⟩
          have hBc := Nat.le_of_eq hB2
          have hBc2 := Nat.le_of_eq hB2.symm
          rw [hB2] at hO0 hsz2 hT0
          rw [hB2]
          obtain ⟨gz, hgz⟩ : ∃ gz, gz = B2 := ⟨_, rfl⟩
          clear hB2
          go_loopw [17, 95] (fun v iv wr => ∃ (i : Nat) (T : List Row3), i ≤ N ∧ iv = .int .i64 (i : Int) ∧ T.map (·.2.2) = tabL cls L N i ∧ TabK wr B2 T ∧ OwnK wr B2 39 1 v T.length (tabV T) ∧ LowK Wc wr ∧ B2 ≤ wr.heap.size) (fun _ iv wr => N - (intOf iv).toNat)
          case atStart => exact ⟨0, [], Nat.zero_le _, rfl, rfl, hT0, hO0, findLow, (by first | omega | (simp; omega))⟩
          case round =>
            clear hO0 hT0 hV2 hsz2
            obtain ⟨i, T, hi, rfl, hTL, hT, hO, hV, hsz⟩ := hrel
            have hTn : T.length ≤ i := by have := congrArg List.length hTL; rw [List.length_map] at this; rw [this]; exact tabL_len cls L N i
            by_cases hli : i < N
            · obtain ⟨W4, hW4⟩ : ∃ W4, W4 = wr := ⟨_, rfl⟩
              subst hW4
              go_wp2_with (first | (refine wl_loadJ ?_) | (refine wl_load ?_) | (refine wl_loadM ?_) | (refine wl_storeJ ?_) | (refine wl_mapNewP ?_) | (refine wl_mapUpdP (L := ?_) ?_ ?_ ?_ ?_ (ho := .inl rfl); rotate_left 2; exact findGomP; assumption; assumption; intro Wm hMm hTm; have hs := hTm.out.1; (try simp at hs); (try have hOm := OwnK.turnP hTm findGomP findOwn); (try have hVm := LowK.turnP hTm (by assumption) findLow)) | (refine wl_fill1 ?_) | (refine wl_fill2 ?_) | (refine wl_storeM ?_) | (refine wl_makeM ?_; intro gm W' hgm hl hT; have hs := hl.out.size; (try simp at hs)) | (refine wl_store (h1 := mC_one _) ?_) | (refine wl_store ?_) | (refine wl_build ?_) | (refine wl_slice ?_) | (refine wl_append (he := eltSp) ?_; intro v' w' ho hg hb; have hs := hg.size; (try simp at hs)) | (refine wl_append ?_; intro v' w' ho hg hb; have hs := hg.size; (try simp at hs); (try rw [ptCs_end] at ho); (try rw [ints_end] at ho); (try simp only [Nat.zero_add, Nat.reduceAdd, List.nil_append, List.cons_append] at ho)) | ((with_reducible apply region_gd (id := 15)); refine region_QA (id := 15) 15 ?_; apply Exists.intro; refine ⟨fun G => ?_, fun W hl => ?_⟩; (· (simp only [List.take_succ_cons, List.take_zero]; (repeat (first | go_big_quiet_skip | (go_big_quiet_want; first | (refine q_loadJ ?_; simp only [Act.put, List.setIfInBounds_toArray, List.set_cons_zero, List.set_cons_succ]; go_big_quiet_on) | (refine q_mapLookP (L := ?_) (v := ?_) ?_ ?_ ?_ (ho := rfl); rotate_left 3; exact findGomP; exact (show RowKit.Hid _ from by assumption).out; simp only [Act.put, List.setIfInBounds_toArray, List.set_cons_zero, List.set_cons_succ]; go_big_quiet_on) | (refine q_load ?_; simp only [Act.put, List.setIfInBounds_toArray, List.set_cons_zero, List.set_cons_succ]; go_big_quiet_on) | (go_big_quiet_op; first | go_big_quiet_on)))); exact rfl)); have hs := hl.out.size; (try simp at hs); simp only [List.drop_succ_cons, List.drop_zero]))
              have hr0 : RowK (W4.alloc (.cells #[] 34)) W4.heap.size #[] 34 := findRow
              have hO5 : OwnK (W4.alloc (.cells #[] 34)) W4.heap.size 34 3 (.slice (some ⟨W4.heap.size, 0, none⟩) 0 0) (filtP cls L i 0).length (ptCs (filtP cls L i 0)) := OwnK.empty hr0 (Nat.le_refl _)
              have hV5 : LowK W4 (W4.alloc (.cells #[] 34)) := findLow
              have hsz5 : W4.heap.size ≤ (W4.alloc (.cells #[] 34)).heap.size := hV5.size
              clear hr0
              generalize W4.alloc (.cells #[] 34) = W5 at *
              obtain ⟨B4, hB4⟩ : ∃ B4, W4.heap.size = B4 := ⟨_, rfl⟩
              have hBd := Nat.le_of_eq hB4
              have hBd2 := Nat.le_of_eq hB4.symm
              rw [hB4] at hO5 hsz5 ⊢
              obtain ⟨gy, hgy⟩ : ∃ gy, gy = B4 := ⟨_, rfl⟩
              clear hB4
              go_loopw [19, 101] (fun v kv wl => ∃ q : Nat, q ≤ N ∧ kv = .int .i64 (q : Int) ∧ OwnK wl B4 34 3 v (filtP cls L i q).length (ptCs (filtP cls L i q)) ∧ LowK W4 wl ∧ B4 ≤ wl.heap.size) (fun _ kv wl => N - (intOf kv).toNat)
              case atStart => exact ⟨0, Nat.zero_le _, rfl, hO5, findLow, (by first | omega | (simp; omega))⟩
              case round =>
                clear hO5 hV5 hsz5
                obtain ⟨q, hq, rfl, hO5, hV5, hsz5⟩ := hrel
                have hfl := filtP_len cls L i q
                have hVc := LowK.link (LowK.lnk hV5) hV
                by_cases hlq : q < N
                · obtain ⟨t, ht⟩ : ∃ t, L.getD q (0, 0, 0) = t := ⟨_, rfl⟩
                  obtain ⟨cq, hcq⟩ : ∃ cq, cls q = cq := ⟨_, rfl⟩
                  have c1 : CellK wr gc q (.int .i64 (cq : Int)) := by have := (hR.link (LowK.lnk hVc)).cell hlq; rw [hcq] at this; exact this
                  have hPr := PtsK.link (LowK.lnk hVc) hPc
                  by_cases he : (cq : Int) = (i : Int)
                  · have hE : ((cq : Int) == (i : Int)) = true := beqt he
                    have HF := Lib.hid (filtP_yes (cls := cls) (L := L) (i := i) (k := q) (by rw [hcq]; omega) (show L.getD q p0 = t from ht))
                    clear he hcq
                    generalize filtP cls L i q = fl at *
                    go_wp2_with (first | (refine wl_loadJ ?_) | (refine wl_load ?_) | (refine wl_loadM ?_) | (refine wl_storeJ ?_) | (refine wl_mapNewP ?_) | (refine wl_mapUpdP (L := ?_) ?_ ?_ ?_ ?_ (ho := .inl rfl); rotate_left 2; exact findGomP; assumption; assumption; intro Wm hMm hTm; have hs := hTm.out.1; (try simp at hs); (try have hOm := OwnK.turnP hTm findGomP findOwn); (try have hVm := LowK.turnP hTm (by assumption) findLow)) | (refine wl_fill1 ?_) | (refine wl_fill2 ?_) | (refine wl_storeM ?_) | (refine wl_makeM ?_; intro gm W' hgm hl hT; have hs := hl.out.size; (try simp at hs)) | (refine wl_store (h1 := mC_one _) ?_) | (refine wl_store ?_) | (refine wl_build ?_) | (refine wl_slice ?_) | (refine wl_append (he := eltSp) ?_; intro v' w' ho hg hb; have hs := hg.size; (try simp at hs)) | (refine wl_append ?_; intro v' w' ho hg hb; have hs := hg.size; (try simp at hs); (try rw [ptCs_end] at ho); (try rw [ints_end] at ho); (try simp only [Nat.zero_add, Nat.reduceAdd, List.nil_append, List.cons_append] at ho)) | ((with_reducible apply region_gd (id := 15)); refine region_QA (id := 15) 15 ?_; apply Exists.intro; refine ⟨fun G => ?_, fun W hl => ?_⟩; (· (simp only [List.take_succ_cons, List.take_zero]; (repeat (first | go_big_quiet_skip | (go_big_quiet_want; first | (refine q_loadJ ?_; simp only [Act.put, List.setIfInBounds_toArray, List.set_cons_zero, List.set_cons_succ]; go_big_quiet_on) | (refine q_mapLookP (L := ?_) (v := ?_) ?_ ?_ ?_ (ho := rfl); rotate_left 3; exact findGomP; exact (show RowKit.Hid _ from by assumption).out; simp only [Act.put, List.setIfInBounds_toArray, List.set_cons_zero, List.set_cons_succ]; go_big_quiet_on) | (refine q_load ?_; simp only [Act.put, List.setIfInBounds_toArray, List.set_cons_zero, List.set_cons_succ]; go_big_quiet_on) | (go_big_quiet_op; first | go_big_quiet_on)))); exact rfl)); have hs := hl.out.size; (try simp at hs); simp only [List.drop_succ_cons, List.drop_zero]))
                    go_roundw
                    case rel => exact ⟨q + 1, by omega, by go_num, by rw [HF.out, List.length_append]; exact ho, findLow, (by first | omega | (simp; omega))⟩
                    case measure => (simp [intOf]; try omega)
                  · have hE : ((cq : Int) == (i : Int)) = false := beqf he
                    have HF := Lib.hid (filtP_no (cls := cls) (L := L) (i := i) (k := q) (by rw [hcq]; omega))
                    clear he hcq
                    go_wp2_with (first | (refine wl_loadJ ?_) | (refine wl_load ?_) | (refine wl_loadM ?_) | (refine wl_storeJ ?_) | (refine wl_mapNewP ?_) | (refine wl_mapUpdP (L := ?_) ?_ ?_ ?_ ?_ (ho := .inl rfl); rotate_left 2; exact findGomP; assumption; assumption; intro Wm hMm hTm; have hs := hTm.out.1; (try simp at hs); (try have hOm := OwnK.turnP hTm findGomP findOwn); (try have hVm := LowK.turnP hTm (by assumption) findLow)) | (refine wl_fill1 ?_) | (refine wl_fill2 ?_) | (refine wl_storeM ?_) | (refine wl_makeM ?_; intro gm W' hgm hl hT; have hs := hl.out.size; (try simp at hs)) | (refine wl_store (h1 := mC_one _) ?_) | (refine wl_store ?_) | (refine wl_build ?_) | (refine wl_slice ?_) | (refine wl_append (he := eltSp) ?_; intro v' w' ho hg hb; have hs := hg.size; (try simp at hs)) | (refine wl_append ?_; intro v' w' ho hg hb; have hs := hg.size; (try simp at hs); (try rw [ptCs_end] at ho); (try rw [ints_end] at ho); (try simp only [Nat.zero_add, Nat.reduceAdd, List.nil_append, List.cons_append] at ho)) | ((with_reducible apply region_gd (id := 15)); refine region_QA (id := 15) 15 ?_; apply Exists.intro; refine ⟨fun G => ?_, fun W hl => ?_⟩; (· (simp only [List.take_succ_cons, List.take_zero]; (repeat (first | go_big_quiet_skip | (go_big_quiet_want; first | (refine q_loadJ ?_; simp only [Act.put, List.setIfInBounds_toArray, List.set_cons_zero, List.set_cons_succ]; go_big_quiet_on) | (refine q_mapLookP (L := ?_) (v := ?_) ?_ ?_ ?_ (ho := rfl); rotate_left 3; exact findGomP; exact (show RowKit.Hid _ from by assumption).out; simp only [Act.put, List.setIfInBounds_toArray, List.set_cons_zero, List.set_cons_succ]; go_big_quiet_on) | (refine q_load ?_; simp only [Act.put, List.setIfInBounds_toArray, List.set_cons_zero, List.set_cons_succ]; go_big_quiet_on) | (go_big_quiet_op; first | go_big_quiet_on)))); exact rfl)); have hs := hl.out.size; (try simp at hs); simp only [List.drop_succ_cons, List.drop_zero]))
                    go_roundw
                    case rel => exact ⟨q + 1, by omega, by go_num, by rw [HF.out]; exact findOwn, findLow, (by first | omega | (simp; omega))⟩
                    case measure => (simp [intOf]; try omega)
                · obtain rfl : N = q := by omega
                  obtain ⟨fl, hfl2⟩ : ∃ fl, filtP cls L i N = fl := ⟨_, rfl⟩
                  rw [hfl2] at hO5 hfl
                  have hO' := hO.link (LowK.lnk hV5)
                  have hT' := hT.link (LowK.lnk hV5)
                  by_cases hpos : 0 < fl.length
                  · have HTL := Lib.hid (tabL_yes hfl2 hpos)
                    obtain ⟨g, cap, rfl, hgl, hgl2, -⟩ := OwnK.pts hO5 rfl hpos
                    have hpos2 : (0 : Int) < (fl.length : Int) := by omega
                    have hTne : Hid (∀ t ∈ T, t.1 ≠ g) := Lib.hid (fun t ht => by have := hT.lt ht; omega)
                    clear hO hT hfl2
                    go_wp2_with (first | (refine wl_loadJ ?_) | (refine wl_load ?_) | (refine wl_loadM ?_) | (refine wl_storeJ ?_) | (refine wl_mapNewP ?_) | (refine wl_mapUpdP (L := ?_) ?_ ?_ ?_ ?_ (ho := .inl rfl); rotate_left 2; exact findGomP; assumption; assumption; intro Wm hMm hTm; have hs := hTm.out.1; (try simp at hs); (try have hOm := OwnK.turnP hTm findGomP findOwn); (try have hVm := LowK.turnP hTm (by assumption) findLow)) | (refine wl_fill1 ?_) | (refine wl_fill2 ?_) | (refine wl_storeM ?_) | (refine wl_makeM ?_; intro gm W' hgm hl hT; have hs := hl.out.size; (try simp at hs)) | (refine wl_store (h1 := mC_one _) ?_) | (refine wl_store ?_) | (refine wl_build ?_) | (refine wl_slice ?_) | (refine wl_append (he := eltSp) ?_; intro v' w' ho hg hb; have hs := hg.size; (try simp at hs)) | (refine wl_append ?_; intro v' w' ho hg hb; have hs := hg.size; (try simp at hs); (try rw [ptCs_end] at ho); (try rw [ints_end] at ho); (try simp only [Nat.zero_add, Nat.reduceAdd, List.nil_append, List.cons_append] at ho)) | ((with_reducible apply region_gd (id := 15)); refine region_QA (id := 15) 15 ?_; apply Exists.intro; refine ⟨fun G => ?_, fun W hl => ?_⟩; (· (simp only [List.take_succ_cons, List.take_zero]; (repeat (first | go_big_quiet_skip | (go_big_quiet_want; first | (refine q_loadJ ?_; simp only [Act.put, List.setIfInBounds_toArray, List.set_cons_zero, List.set_cons_succ]; go_big_quiet_on) | (refine q_mapLookP (L := ?_) (v := ?_) ?_ ?_ ?_ (ho := rfl); rotate_left 3; exact findGomP; exact (show RowKit.Hid _ from by assumption).out; simp only [Act.put, List.setIfInBounds_toArray, List.set_cons_zero, List.set_cons_succ]; go_big_quiet_on) | (refine q_load ?_; simp only [Act.put, List.setIfInBounds_toArray, List.set_cons_zero, List.set_cons_succ]; go_big_quiet_on) | (go_big_quiet_op; first | go_big_quiet_on)))); exact rfl)); have hs := hl.out.size; (try simp at hs); simp only [List.drop_succ_cons, List.drop_zero]))
                    go_roundw
                    case rel => exact ⟨i + 1, T ++ [(g, cap, fl)], by omega, by go_num, by rw [List.map_append, hTL, HTL.out]; rfl, TabK.snoc (TabK.grew hg (hO'.alloc _) (hT'.link (LowK.lnk findLow))) hpos (OwnK.lower (by omega) (OwnK.grew hg (hO5.alloc _) (fun b hb => own_types hO5 hO' (by decide) b hb))) hTne.out, by rw [List.length_append, ← tabV_snoc]; exact ho, findLow, (by first | omega | (simp; omega))⟩
                    case measure => (simp [intOf]; try omega)
                  · have HTL := Lib.hid (tabL_no hfl2 hpos)
                    have hl0 : fl.length = 0 := by omega
                    obtain ⟨bo, cp, rfl⟩ := hO5.form
                    rw [hl0]
                    clear hO hT hfl2 hl0
                    go_wp2_with (first | (refine wl_loadJ ?_) | (refine wl_load ?_) | (refine wl_loadM ?_) | (refine wl_storeJ ?_) | (refine wl_mapNewP ?_) | (refine wl_mapUpdP (L := ?_) ?_ ?_ ?_ ?_ (ho := .inl rfl); rotate_left 2; exact findGomP; assumption; assumption; intro Wm hMm hTm; have hs := hTm.out.1; (try simp at hs); (try have hOm := OwnK.turnP hTm findGomP findOwn); (try have hVm := LowK.turnP hTm (by assumption) findLow)) | (refine wl_fill1 ?_) | (refine wl_fill2 ?_) | (refine wl_storeM ?_) | (refine wl_makeM ?_; intro gm W' hgm hl hT; have hs := hl.out.size; (try simp at hs)) | (refine wl_store (h1 := mC_one _) ?_) | (refine wl_store ?_) | (refine wl_build ?_) | (refine wl_slice ?_) | (refine wl_append (he := eltSp) ?_; intro v' w' ho hg hb; have hs := hg.size; (try simp at hs)) | (refine wl_append ?_; intro v' w' ho hg hb; have hs := hg.size; (try simp at hs); (try rw [ptCs_end] at ho); (try rw [ints_end] at ho); (try simp only [Nat.zero_add, Nat.reduceAdd, List.nil_append, List.cons_append] at ho)) | ((with_reducible apply region_gd (id := 15)); refine region_QA (id := 15) 15 ?_; apply Exists.intro; refine ⟨fun G => ?_, fun W hl => ?_⟩; (· (simp only [List.take_succ_cons, List.take_zero]; (repeat (first | go_big_quiet_skip | (go_big_quiet_want; first | (refine q_loadJ ?_; simp only [Act.put, List.setIfInBounds_toArray, List.set_cons_zero, List.set_cons_succ]; go_big_quiet_on) | (refine q_mapLookP (L := ?_) (v := ?_) ?_ ?_ ?_ (ho := rfl); rotate_left 3; exact findGomP; exact (show RowKit.Hid _ from by assumption).out; simp only [Act.put, List.setIfInBounds_toArray, List.set_cons_zero, List.set_cons_succ]; go_big_quiet_on) | (refine q_load ?_; simp only [Act.put, List.setIfInBounds_toArray, List.set_cons_zero, List.set_cons_succ]; go_big_quiet_on) | (go_big_quiet_op; first | go_big_quiet_on)))); exact rfl)); have hs := hl.out.size; (try simp at hs); simp only [List.drop_succ_cons, List.drop_zero]))
                    go_roundw
                    case rel => exact ⟨i + 1, T, by omega, by go_num, by rw [HTL.out]; exact hTL, hT', hO', findLow, (by first | omega | (simp; omega))⟩
                    case measure => (simp [intOf]; try omega)
            · obtain rfl : N = i := by omega
              obtain ⟨bo, cp, rfl⟩ := hO.form
              go_wp2_with (first | (refine wl_loadJ ?_) | (refine wl_load ?_) | (refine wl_loadM ?_) | (refine wl_storeJ ?_) | (refine wl_mapNewP ?_) | (refine wl_mapUpdP (L := ?_) ?_ ?_ ?_ ?_ (ho := .inl rfl); rotate_left 2; exact findGomP; assumption; assumption; intro Wm hMm hTm; have hs := hTm.out.1; (try simp at hs); (try have hOm := OwnK.turnP hTm findGomP findOwn); (try have hVm := LowK.turnP hTm (by assumption) findLow)) | (refine wl_fill1 ?_) | (refine wl_fill2 ?_) | (refine wl_storeM ?_) | (refine wl_makeM ?_; intro gm W' hgm hl hT; have hs := hl.out.size; (try simp at hs)) | (refine wl_store (h1 := mC_one _) ?_) | (refine wl_store ?_) | (refine wl_build ?_) | (refine wl_slice ?_) | (refine wl_append (he := eltSp) ?_; intro v' w' ho hg hb; have hs := hg.size; (try simp at hs)) | (refine wl_append ?_; intro v' w' ho hg hb; have hs := hg.size; (try simp at hs); (try rw [ptCs_end] at ho); (try rw [ints_end] at ho); (try simp only [Nat.zero_add, Nat.reduceAdd, List.nil_append, List.cons_append] at ho)) | ((with_reducible apply region_gd (id := 15)); refine region_QA (id := 15) 15 ?_; apply Exists.intro; refine ⟨fun G => ?_, fun W hl => ?_⟩; (· (simp only [List.take_succ_cons, List.take_zero]; (repeat (first | go_big_quiet_skip | (go_big_quiet_want; first | (refine q_loadJ ?_; simp only [Act.put, List.setIfInBounds_toArray, List.set_cons_zero, List.set_cons_succ]; go_big_quiet_on) | (refine q_mapLookP (L := ?_) (v := ?_) ?_ ?_ ?_ (ho := rfl); rotate_left 3; exact findGomP; exact (show RowKit.Hid _ from by assumption).out; simp only [Act.put, List.setIfInBounds_toArray, List.set_cons_zero, List.set_cons_succ]; go_big_quiet_on) | (refine q_load ?_; simp only [Act.put, List.setIfInBounds_toArray, List.set_cons_zero, List.set_cons_succ]; go_big_quiet_on) | (go_big_quiet_op; first | go_big_quiet_on)))); exact rfl)); have hs := hl.out.size; (try simp at hs); simp only [List.drop_succ_cons, List.drop_zero]))
              (apply ret_one Try.results16; (conv => lhs; whnf); exact rfl)
              have hwB : w.heap.size ≤ B2 := by have := hVi.size; omega
              exact ⟨_, T, rfl, by rw [HCL.out]; exact hTL, TabK.lower hwB hT, OwnK.lower hwB hO, LowK.link (LowK.lnk hV) hVi⟩
end Go.Proofs.Ytnpmdchphaenaaa
/- Contracts: the reference's orbit of a point; the reference's AreInOneOrbit. -- maps -- gomaps -- slice2 -/
namespace Go.Proofs.Ytnpmdchphaenaaa
open Go.RowKit
set_option linter.unusedVariables false
set_option linter.unusedSimpArgs false
theorem eqP_self (z : Pt) : eqP z z = true := eqP_iff.2 rfl
theorem eqP_no {z p : Pt} (h : ¬ z = p) : eqP z p = false := by rw [Bool.eq_false_iff]; exact fun e => h (eqP_iff.1 e)
theorem atP_mem {l : List Pt} {t : Pt} (h : t ∈ l) : ∃ q, q < l.length ∧ l.getD q p0 = t := by
  obtain ⟨q, hq, e⟩ := List.mem_iff_getElem.1 h
  exact ⟨q, hq, by rw [List.getD_eq_getElem?_getD, List.getElem?_eq_getElem hq]; exact e⟩
/-- A list of points that may be empty. -/
def PtsE (W : World) (b : Option Addr) (n : Nat) (L : List Pt) : Prop := L.length = n ∧ (0 < n → ∃ g, b = some ⟨g, 0, none⟩ ∧ PtsK W g 0 n L)
theorem PtsE.link {w W : World} {b : Option Addr} {n : Nat} {L : List Pt} (l : Link w W) (h : PtsE w b n L) : PtsE W b n L := ⟨h.1, fun hn => by obtain ⟨g, e, hP⟩ := h.2 hn; exact ⟨g, e, hP.link l⟩⟩
theorem PtsE.of {w : World} {g n : Nat} {L : List Pt} (hl : L.length = n) (h : PtsK w g 0 n L) : PtsE w (some ⟨g, 0, none⟩) n L := ⟨hl, fun _ => ⟨g, rfl, h⟩⟩
set_option maxRecDepth 20000 in
set_option maxHeartbeats 8000000 in
theorem Has_P (p : Pt) (b : Option Addr) (n c : Nat) (L : List Pt) (w : World) (hn : n ≤ 1000000) (hP : PtsE w b n L) {v : Bool} (hv : decide (p ∈ L) = v) :
    Calls Try.prog 19 #[.slice b n c, pV p] w (Ret w (.bool v)) := by
  have hl := hP.1
  have HV := Lib.hid hv
  clear hv
  go_enter Try.func19, Try.ntmps19
  go_wp2_with (first | (refine wl_loadM ?_) | (refine wl_load ?_) | (refine wl_fill1 ?_) | (refine wl_fill2 ?_) | (refine wl_storeM ?_) | (refine wl_makeM ?_; intro gm W' hgm hl hT; have hs := hl.out.size; (try simp at hs)) | (refine wl_store (h1 := mC_one _) ?_) | (refine wl_sliceM ?_) | (refine wl_append (he := eltMp) (h1 := mC_one _) ?_; intro v' w' ho hg hb; have hs := hg.size; (try simp at hs); rw [mCs_snoc] at ho; (try obtain ⟨gz, cz, rfl, hzb, hzl, -⟩ := OwnK.maps ho (by simp) (by omega))) | (refine wl_mapLook true ?_ (hM := findGom) (hv := by (first | exact decide_eq_true (by assumption)))) | (refine wl_mapLook false ?_ (hM := findGom) (hv := by (first | exact decide_eq_false (by assumption)))) | (refine wl_store ?_) | (refine wl_build ?_) | (refine wl_slice ?_) | (refine wl_slice2 ?_) | (refine wl_append ?_; intro v' w' ho hg hb; have hs := hg.size; (try simp at hs); (try rw [ptCs_end] at ho); (try rw [ints_end] at ho); (try simp only [Nat.zero_add, Nat.reduceAdd, List.nil_append, List.cons_append] at ho)) | ((with_reducible apply region_gd (id := 4)); refine region_QA (id := 4) 6 ?_; apply Exists.intro; refine ⟨fun G => ?_, fun W hl => ?_⟩; (· (simp only [List.take_succ_cons, List.take_zero]; (repeat (first | go_big_quiet_skip | (go_big_quiet_want; first | (refine q_loadM ?_; simp only [Act.put, List.setIfInBounds_toArray, List.set_cons_zero, List.set_cons_succ]; go_big_quiet_on) | (refine q_load ?_; simp only [Act.put, List.setIfInBounds_toArray, List.set_cons_zero, List.set_cons_succ]; go_big_quiet_on) | (go_big_quiet_op; first | go_big_quiet_on)))); exact rfl)); have hs := hl.out.size; (try simp at hs); simp only [List.drop_succ_cons, List.drop_zero]))
  have hbx : RowK (w.alloc (.cells (pC p) 34)) w.heap.size (pC p) 34 := findRow
  have hP1 : PtsE (w.alloc (.cells (pC p) 34)) b n L := hP.link (LowK.lnk findLow)
  have hV1 : LowK w (w.alloc (.cells (pC p) 34)) := findLow
  have hsz1 : w.heap.size < (w.alloc (.cells (pC p) 34)).heap.size := by simp
  clear hP
  generalize w.alloc (.cells (pC p) 34) = W1 at *
  go_loopw [5] (fun iv wr => ∃ i : Nat, i ≤ n ∧ iv = .int .i64 (i : Int) ∧ LowK W1 wr ∧ ∀ q, q < i → L.getD q p0 ≠ p) (fun iv wr => n - (intOf iv).toNat)
  case atStart => exact ⟨0, Nat.zero_le _, rfl, LowK.refl _, fun q hq => absurd hq (Nat.not_lt_zero _)⟩
  case round =>
    obtain ⟨i, hi, rfl, hV, hno⟩ := hrel
    have hr := RowK.link (LowK.lnk hV) hbx
    have hV2 := LowK.link (LowK.lnk hV) hV1
    by_cases hlt : i < n
    · obtain ⟨g, rfl, hPk⟩ := hP1.2 (by omega)
      have hPr := PtsK.link (LowK.lnk hV) hPk
      obtain ⟨z, hz⟩ : ∃ z, L.getD i p0 = z := ⟨_, rfl⟩
      have hz2 : L.getD i (0, 0, 0) = z := hz
      have HZ := Lib.hid hz
      clear hz
      by_cases hzp : z = p
      · subst hzp
        have hd := eqP_self z
        go_wp2_with (first | (refine wl_loadM ?_) | (refine wl_load ?_) | (refine wl_fill1 ?_) | (refine wl_fill2 ?_) | (refine wl_storeM ?_) | (refine wl_makeM ?_; intro gm W' hgm hl hT; have hs := hl.out.size; (try simp at hs)) | (refine wl_store (h1 := mC_one _) ?_) | (refine wl_sliceM ?_) | (refine wl_append (he := eltMp) (h1 := mC_one _) ?_; intro v' w' ho hg hb; have hs := hg.size; (try simp at hs); rw [mCs_snoc] at ho; (try obtain ⟨gz, cz, rfl, hzb, hzl, -⟩ := OwnK.maps ho (by simp) (by omega))) | (refine wl_mapLook true ?_ (hM := findGom) (hv := by (first | exact decide_eq_true (by assumption)))) | (refine wl_mapLook false ?_ (hM := findGom) (hv := by (first | exact decide_eq_false (by assumption)))) | (refine wl_store ?_) | (refine wl_build ?_) | (refine wl_slice ?_) | (refine wl_slice2 ?_) | (refine wl_append ?_; intro v' w' ho hg hb; have hs := hg.size; (try simp at hs); (try rw [ptCs_end] at ho); (try rw [ints_end] at ho); (try simp only [Nat.zero_add, Nat.reduceAdd, List.nil_append, List.cons_append] at ho)) | ((with_reducible apply region_gd (id := 4)); refine region_QA (id := 4) 6 ?_; apply Exists.intro; refine ⟨fun G => ?_, fun W hl => ?_⟩; (· (simp only [List.take_succ_cons, List.take_zero]; (repeat (first | go_big_quiet_skip | (go_big_quiet_want; first | (refine q_loadM ?_; simp only [Act.put, List.setIfInBounds_toArray, List.set_cons_zero, List.set_cons_succ]; go_big_quiet_on) | (refine q_load ?_; simp only [Act.put, List.setIfInBounds_toArray, List.set_cons_zero, List.set_cons_succ]; go_big_quiet_on) | (go_big_quiet_op; first | go_big_quiet_on)))); exact rfl)); have hs := hl.out.size; (try simp at hs); simp only [List.drop_succ_cons, List.drop_zero]))
        have hm : decide (z ∈ L) = true := by
          rw [decide_eq_true_iff]; rw [← HZ.out, List.getD_eq_getElem?_getD, List.getElem?_eq_getElem (by omega)]; exact List.getElem_mem _
        rw [HV.out] at hm
        (apply ret_one Try.results19; (conv => lhs; whnf); exact rfl)
        rw [hm]
        exact ret_ret rfl findLow
      · have hd := eqP_no hzp
        go_wp2_with (first | (refine wl_loadM ?_) | (refine wl_load ?_) | (refine wl_fill1 ?_) | (refine wl_fill2 ?_) | (refine wl_storeM ?_) | (refine wl_makeM ?_; intro gm W' hgm hl hT; have hs := hl.out.size; (try simp at hs)) | (refine wl_store (h1 := mC_one _) ?_) | (refine wl_sliceM ?_) | (refine wl_append (he := eltMp) (h1 := mC_one _) ?_; intro v' w' ho hg hb; have hs := hg.size; (try simp at hs); rw [mCs_snoc] at ho; (try obtain ⟨gz, cz, rfl, hzb, hzl, -⟩ := OwnK.maps ho (by simp) (by omega))) | (refine wl_mapLook true ?_ (hM := findGom) (hv := by (first | exact decide_eq_true (by assumption)))) | (refine wl_mapLook false ?_ (hM := findGom) (hv := by (first | exact decide_eq_false (by assumption)))) | (refine wl_store ?_) | (refine wl_build ?_) | (refine wl_slice ?_) | (refine wl_slice2 ?_) | (refine wl_append ?_; intro v' w' ho hg hb; have hs := hg.size; (try simp at hs); (try rw [ptCs_end] at ho); (try rw [ints_end] at ho); (try simp only [Nat.zero_add, Nat.reduceAdd, List.nil_append, List.cons_append] at ho)) | ((with_reducible apply region_gd (id := 4)); refine region_QA (id := 4) 6 ?_; apply Exists.intro; refine ⟨fun G => ?_, fun W hl => ?_⟩; (· (simp only [List.take_succ_cons, List.take_zero]; (repeat (first | go_big_quiet_skip | (go_big_quiet_want; first | (refine q_loadM ?_; simp only [Act.put, List.setIfInBounds_toArray, List.set_cons_zero, List.set_cons_succ]; go_big_quiet_on) | (refine q_load ?_; simp only [Act.put, List.setIfInBounds_toArray, List.set_cons_zero, List.set_cons_succ]; go_big_quiet_on) | (go_big_quiet_op; first | go_big_quiet_on)))); exact rfl)); have hs := hl.out.size; (try simp at hs); simp only [List.drop_succ_cons, List.drop_zero]))
        go_roundw
        case rel => exact ⟨i + 1, by omega, by go_num, findLow, fun q hq => by
          by_cases e : q = i
          · subst e; rw [HZ.out]; exact hzp
          · exact hno q (by omega)⟩
        case measure => (simp [intOf]; try omega)
    · obtain rfl : n = i := by omega
      go_wp2_with (first | (refine wl_loadM ?_) | (refine wl_load ?_) | (refine wl_fill1 ?_) | (refine wl_fill2 ?_) | (refine wl_storeM ?_) | (refine wl_makeM ?_; intro gm W' hgm hl hT; have hs := hl.out.size; (try simp at hs)) | (refine wl_store (h1 := mC_one _) ?_) | (refine wl_sliceM ?_) | (refine wl_append (he := eltMp) (h1 := mC_one _) ?_; intro v' w' ho hg hb; have hs := hg.size; (try simp at hs); rw [mCs_snoc] at ho; (try obtain ⟨gz, cz, rfl, hzb, hzl, -⟩ := OwnK.maps ho (by simp) (by omega))) | (refine wl_mapLook true ?_ (hM := findGom) (hv := by (first | exact decide_eq_true (by assumption)))) | (refine wl_mapLook false ?_ (hM := findGom) (hv := by (first | exact decide_eq_false (by assumption)))) | (refine wl_store ?_) | (refine wl_build ?_) | (refine wl_slice ?_) | (refine wl_slice2 ?_) | (refine wl_append ?_; intro v' w' ho hg hb; have hs := hg.size; (try simp at hs); (try rw [ptCs_end] at ho); (try rw [ints_end] at ho); (try simp only [Nat.zero_add, Nat.reduceAdd, List.nil_append, List.cons_append] at ho)) | ((with_reducible apply region_gd (id := 4)); refine region_QA (id := 4) 6 ?_; apply Exists.intro; refine ⟨fun G => ?_, fun W hl => ?_⟩; (· (simp only [List.take_succ_cons, List.take_zero]; (repeat (first | go_big_quiet_skip | (go_big_quiet_want; first | (refine q_loadM ?_; simp only [Act.put, List.setIfInBounds_toArray, List.set_cons_zero, List.set_cons_succ]; go_big_quiet_on) | (refine q_load ?_; simp only [Act.put, List.setIfInBounds_toArray, List.set_cons_zero, List.set_cons_succ]; go_big_quiet_on) | (go_big_quiet_op; first | go_big_quiet_on)))); exact rfl)); have hs := hl.out.size; (try simp at hs); simp only [List.drop_succ_cons, List.drop_zero]))
      have hm : decide (p ∈ L) = false := by
        rw [decide_eq_false_iff_not]; intro hm
        obtain ⟨q, hq, e⟩ := atP_mem hm
        exact hno q (by omega) e
      rw [HV.out] at hm
      (apply ret_one Try.results19; (conv => lhs; whnf); exact rfl)
      rw [hm]
      exact ret_ret rfl findLow
theorem image_S {p : Int} {m : M9} {a r : Pt} (w : World) (hr : imgP p m a = r) (hp : prB p = true) (hm : InM m) (ha : In13 a) : Calls Try.prog 40 #[.int .i64 p, mV m, pV a] w (Ret w (pV r)) := by rw [← hr]; exact l02Image_any p m a w hp hm ha
/-- The whole orbit, an own list. -/
def OrbPost (w : World) (S : List Pt) : Ending → World → Prop := fun e w' => ∃ g cap, e = .returned (.slice (some ⟨g, 0, none⟩) S.length cap) ∧ OwnK w' w.heap.size 34 3 (.slice (some ⟨g, 0, none⟩) S.length cap) S.length (ptCs S) ∧ LowK w w' ∧ PtsK w' g 0 S.length S
theorem OwnK.pt1 {W : World} {B g : Nat} {T : TypeId} {t : Pt} (h : RowK W g (pC t) T) (hB : B ≤ g) : OwnK W B T 3 (.slice (some ⟨g, 0, none⟩) 1 1) 1 (ptCs [t]) :=
  ⟨⟨by simp [ptCs, ptC], .inr ⟨g, 1, pC t, rfl, hB, h.out, by omega, by decide, rfl, by simp [ptCs, ptC, pC]⟩⟩⟩
set_option maxRecDepth 20000 in
set_option maxHeartbeats 8000000 in
theorem Orbit_S (n : Nat) (b : Option Addr) (k c : Nat) (ms : List M9) (a : Pt) (K : Nat) (S : List Pt) (w : World) (h : MsOk n ms) (hk : k ≤ 8) (hms : ListM w b k ms) (ha : a ∈ allP n) (hK : WholeP n ms a K) (hS : seqP n ms a K = S) :
    Calls Try.prog 20 #[.int .i64 (n : Int), .slice b k c, pV a] w (OrbPost w S) := by
  obtain ⟨h3, h13⟩ := h.n13
  have hml := hms.out.1
  have HH := Lib.hid h
  have HS := Lib.hid hS
  have HK := Lib.hid hK
  have HA := Lib.hid ha
  have hp := h.pr
  have hin : ∀ m ∈ ms, InM m := fun m hm => okM_inM (h.ok m hm)
  clear h hS hK ha
  go_enter Try.func20, Try.ntmps20
  go_wp2_with (first | (refine wl_loadM ?_) | (refine wl_load ?_) | (refine wl_fill1 ?_) | (refine wl_fill2 ?_) | (refine wl_storeM ?_) | (refine wl_makeM ?_; intro gm W' hgm hl hT; have hs := hl.out.size; (try simp at hs)) | (refine wl_store (h1 := mC_one _) ?_) | (refine wl_sliceM ?_) | (refine wl_append (he := eltMp) (h1 := mC_one _) ?_; intro v' w' ho hg hb; have hs := hg.size; (try simp at hs); rw [mCs_snoc] at ho; (try obtain ⟨gz, cz, rfl, hzb, hzl, -⟩ := OwnK.maps ho (by simp) (by omega))) | (refine wl_mapLook true ?_ (hM := findGom) (hv := by (first | exact decide_eq_true (by assumption)))) | (refine wl_mapLook false ?_ (hM := findGom) (hv := by (first | exact decide_eq_false (by assumption)))) | (refine wl_store ?_) | (refine wl_build ?_) | (refine wl_slice ?_) | (refine wl_slice2 ?_) | (refine wl_append ?_; intro v' w' ho hg hb; have hs := hg.size; (try simp at hs); (try rw [ptCs_end] at ho); (try rw [ints_end] at ho); (try simp only [Nat.zero_add, Nat.reduceAdd, List.nil_append, List.cons_append] at ho)) | ((with_reducible apply region_gd (id := 8)); refine region_QNA (id := 8) 11 [⟨10, 10, #[.int .i64 0, .int .i64 0, .int .i64 0], 34⟩] (.k (.k (.k (.k (.k (.k (.k (.k (.k (.k (.d (.d .n)))))))))))) ⟨(fun o ho ρ W => by obtain rfl : _ = o := Option.some.inj ho; simp [execOp, go_sem]), trivial⟩ ?_; apply Exists.intro; refine ⟨fun G => ?_, fun g W hl hg hd => ?_⟩; (· ((repeat (first | go_big_quiet_skip | (go_big_quiet_want; first | (refine q_loadM ?_; simp only [Act.put, List.setIfInBounds_toArray, List.set_cons_zero, List.set_cons_succ]; go_big_quiet_on) | (refine q_load ?_; simp only [Act.put, List.setIfInBounds_toArray, List.set_cons_zero, List.set_cons_succ]; go_big_quiet_on) | (go_big_quiet_op; first | go_big_quiet_on)))); exact rfl)); obtain ⟨⟨q10, k10⟩, -⟩ := hg; have hs := hl.out.size; (try simp at hs); dsimp only at q10 k10; (try simp at q10); have l10 := k10.lt; clear hd; simp only [List.map_cons, List.map_nil, puts, Act.put, List.setIfInBounds_toArray, List.set_cons_zero, List.set_cons_succ, List.drop_succ_cons, List.drop_zero]; generalize g 10 = g10 at *; skip))
  have hr0 : RowK ((w.alloc (.cells (pC a) 34)).alloc (.cells (pC a) 34)) (w.heap.size + 1) (pC a) 34 := findRow
  have hO0 : OwnK ((w.alloc (.cells (pC a) 34)).alloc (.cells (pC a) 34)) w.heap.size 34 3 (.slice (some ⟨w.heap.size + 1, 0, none⟩) 1 1) (seqP n ms a 0).length (ptCs (seqP n ms a 0)) := OwnK.pt1 hr0 (by omega)
  have hV0 : LowK w ((w.alloc (.cells (pC a) 34)).alloc (.cells (pC a) 34)) := findLow
  clear hr0
  generalize (w.alloc (.cells (pC a) 34)).alloc (.cells (pC a) 34) = W1 at *
  have hsz0 : w.heap.size ≤ W1.heap.size := hV0.size
  obtain ⟨B, hB⟩ : ∃ B, w.heap.size = B := ⟨_, rfl⟩
  have hBw := Nat.le_of_eq hB
  rw [hB] at hO0 hsz0 ⊢
  generalize (B + 1) = B1 at *
  go_loopw [7, 8] (fun v iv wr => ∃ i : Nat, RunP n ms a i ∧ i ≤ (seqP n ms a i).length ∧ iv = .int .i64 (i : Int) ∧ OwnK wr B 34 3 v (seqP n ms a i).length (ptCs (seqP n ms a i)) ∧ LowK w wr ∧ B ≤ wr.heap.size) (fun _ iv wr => 201 - (intOf iv).toNat)
  case atStart => exact ⟨0, fun i hi => absurd hi (Nat.not_lt_zero _), Nat.zero_le _, rfl, hO0, findLow, (by first | omega | (simp; omega))⟩
  case round =>
    clear hO0 hsz0 hV0
    obtain ⟨i, hG, hi, rfl, hO, hV, hsz⟩ := hrel
    have hall := hG.in HH.out HA.out
    have h183 := len183 h13 (seqP_nodup n ms a i) hall
    have hpos : 0 < (seqP n ms a i).length := List.length_pos_of_mem ((seqO_mono (fO n ms) ms.length p0 a i (i := 0) (Nat.zero_le _)).subset (List.mem_singleton.2 rfl))
    have hnd := seqP_nodup n ms a i
    obtain ⟨A, hA⟩ : ∃ A, seqP n ms a i = A := ⟨_, rfl⟩
    have HAA := Lib.hid hA
    rw [hA] at hO h183 hi hall hpos hnd
    clear hA
    have HALL := Lib.hid hall
    have HND := Lib.hid hnd
    clear hall hnd
    obtain ⟨vo, cpo, rfl, hgo, hgo2, hmo⟩ := OwnK.pts hO rfl hpos
    by_cases hlt : i < A.length
    · obtain ⟨x, hx⟩ : ∃ x, A.getD i p0 = x := ⟨_, rfl⟩
      have hxi : x ∈ allP n := by rw [← hx]; exact HALL.out _ (getD_mem hlt)
      have hx13 : In13 x := allP_in h13 _ hxi
      have HX := Lib.hid hx
      have HXI := Lib.hid hxi
      clear hx hxi
      go_wp2_with (first | (refine wl_loadM ?_) | (refine wl_load ?_) | (refine wl_fill1 ?_) | (refine wl_fill2 ?_) | (refine wl_storeM ?_) | (refine wl_makeM ?_; intro gm W' hgm hl hT; have hs := hl.out.size; (try simp at hs)) | (refine wl_store (h1 := mC_one _) ?_) | (refine wl_sliceM ?_) | (refine wl_append (he := eltMp) (h1 := mC_one _) ?_; intro v' w' ho hg hb; have hs := hg.size; (try simp at hs); rw [mCs_snoc] at ho; (try obtain ⟨gz, cz, rfl, hzb, hzl, -⟩ := OwnK.maps ho (by simp) (by omega))) | (refine wl_mapLook true ?_ (hM := findGom) (hv := by (first | exact decide_eq_true (by assumption)))) | (refine wl_mapLook false ?_ (hM := findGom) (hv := by (first | exact decide_eq_false (by assumption)))) | (refine wl_store ?_) | (refine wl_build ?_) | (refine wl_slice ?_) | (refine wl_slice2 ?_) | (refine wl_append ?_; intro v' w' ho hg hb; have hs := hg.size; (try simp at hs); (try rw [ptCs_end] at ho); (try rw [ints_end] at ho); (try simp only [Nat.zero_add, Nat.reduceAdd, List.nil_append, List.cons_append] at ho)) | ((with_reducible apply region_gd (id := 8)); refine region_QNA (id := 8) 11 [⟨10, 10, #[.int .i64 0, .int .i64 0, .int .i64 0], 34⟩] (.k (.k (.k (.k (.k (.k (.k (.k (.k (.k (.d (.d .n)))))))))))) ⟨(fun o ho ρ W => by obtain rfl : _ = o := Option.some.inj ho; simp [execOp, go_sem]), trivial⟩ ?_; apply Exists.intro; refine ⟨fun G => ?_, fun g W hl hg hd => ?_⟩; (· ((repeat (first | go_big_quiet_skip | (go_big_quiet_want; first | (refine q_loadM ?_; simp only [Act.put, List.setIfInBounds_toArray, List.set_cons_zero, List.set_cons_succ]; go_big_quiet_on) | (refine q_load ?_; simp only [Act.put, List.setIfInBounds_toArray, List.set_cons_zero, List.set_cons_succ]; go_big_quiet_on) | (go_big_quiet_op; first | go_big_quiet_on)))); exact rfl)); obtain ⟨⟨q10, k10⟩, -⟩ := hg; have hs := hl.out.size; (try simp at hs); dsimp only at q10 k10; (try simp at q10); have l10 := k10.lt; clear hd; simp only [List.map_cons, List.map_nil, puts, Act.put, List.setIfInBounds_toArray, List.set_cons_zero, List.set_cons_succ, List.drop_succ_cons, List.drop_zero]; generalize g 10 = g10 at *; skip))
      have hAl : 0 < A.length := by omega
      clear hmo
      go_loopw [7, 9] (fun v kv wi => ∃ q : Nat, q ≤ k ∧ kv = .int .i64 (q : Int) ∧ OwnK wi B 34 3 v (innP n ms A x q).length (ptCs (innP n ms A x q)) ∧ LowK w wi ∧ B ≤ wi.heap.size) (fun _ kv wi => k - (intOf kv).toNat)
      case atStart => exact ⟨0, Nat.zero_le _, rfl, hO, findLow, (by first | omega | (simp; omega))⟩
      case round =>
        clear hO hV hsz
        obtain ⟨q, hq, rfl, hO, hV, hsz⟩ := hrel
        have hi183 := len183 h13 (innP_nodup (ms := ms) (n := n) (x := x) HND.out q) (innP_in HH.out HALL.out HXI.out (by omega))
        have hpre := innP_len (n := n) (ms := ms) A x q
        by_cases hlk : q < k
        · obtain ⟨y, hy⟩ : ∃ y, ms.getD q m0 = y := ⟨_, rfl⟩
          have hyi : InM y := by rw [← hy]; exact hin _ (getM_mem (by omega))
          obtain ⟨t, ht⟩ : ∃ t, imgP n y x = t := ⟨_, rfl⟩
          have HT := Lib.hid ht
          have HSu := Lib.hid (innP_succ (A := A) (x := x) (k := q) hy ht)
          have hgx := innP_at (n := n) (ms := ms) (x := x) hlt q
          obtain ⟨A2, hA2⟩ : ∃ A2, innP n ms A x q = A2 := ⟨_, rfl⟩
          rw [hA2] at hO hi183 hpre HSu hgx
          have hgx2 : A2.getD i (0, 0, 0) = x := hgx.trans HX.out
          have hA2l : i < A2.length := by omega
          obtain ⟨vg, cpk, rfl, hg, hg2, hm⟩ := OwnK.pts hO rfl (by omega)
          obtain ⟨gb, off, rfl, hma⟩ := hms.out.2 (by omega)
          have r1 : RangeK wr gb (off + q * 9) (mC y) := by rw [← hy]; exact (hma.at_ hlk).viaLow hV
          clear ht hA2 hy hma hgx
          obtain ⟨b0, hb0⟩ : ∃ b0, decide (t ∈ A2) = b0 := ⟨_, rfl⟩
          rcases b0 with _ | _
          · have E1 : Hid (innP n ms A x (q + 1) = A2 ++ [t]) := Lib.hid (by rw [HSu.out, if_neg (of_decide_eq_false hb0)])
            have HB0 := Lib.hid hb0
            clear hb0 HSu
            go_wp2_with (first | (refine wl_loadM ?_) | (refine wl_load ?_) | (refine wl_fill1 ?_) | (refine wl_fill2 ?_) | (refine wl_storeM ?_) | (refine wl_makeM ?_; intro gm W' hgm hl hT; have hs := hl.out.size; (try simp at hs)) | (refine wl_store (h1 := mC_one _) ?_) | (refine wl_sliceM ?_) | (refine wl_append (he := eltMp) (h1 := mC_one _) ?_; intro v' w' ho hg hb; have hs := hg.size; (try simp at hs); rw [mCs_snoc] at ho; (try obtain ⟨gz, cz, rfl, hzb, hzl, -⟩ := OwnK.maps ho (by simp) (by omega))) | (refine wl_mapLook true ?_ (hM := findGom) (hv := by (first | exact decide_eq_true (by assumption)))) | (refine wl_mapLook false ?_ (hM := findGom) (hv := by (first | exact decide_eq_false (by assumption)))) | (refine wl_store ?_) | (refine wl_build ?_) | (refine wl_slice ?_) | (refine wl_slice2 ?_) | (refine wl_append ?_; intro v' w' ho hg hb; have hs := hg.size; (try simp at hs); (try rw [ptCs_end] at ho); (try rw [ints_end] at ho); (try simp only [Nat.zero_add, Nat.reduceAdd, List.nil_append, List.cons_append] at ho)) | (go_at_call 40; (with_reducible refine (image_S _ HT.out hp hyi hx13).mono ?_); rintro e w' ⟨rfl, hb⟩; have hl := Link.mk hb; have hs := hb.size; (try simp at hs); clear hb) | (go_at_call 19; (with_reducible refine (Has_P t _ _ _ A2 _ (by omega) (PtsE.of rfl findPts) HB0.out).mono ?_); rintro e w' ⟨rfl, hb⟩; have hl := Link.mk hb; have hs := hb.size; (try simp at hs); clear hb) | ((with_reducible apply region_gd (id := 8)); refine region_QNA (id := 8) 11 [⟨10, 10, #[.int .i64 0, .int .i64 0, .int .i64 0], 34⟩] (.k (.k (.k (.k (.k (.k (.k (.k (.k (.k (.d (.d .n)))))))))))) ⟨(fun o ho ρ W => by obtain rfl : _ = o := Option.some.inj ho; simp [execOp, go_sem]), trivial⟩ ?_; apply Exists.intro; refine ⟨fun G => ?_, fun g W hl hg hd => ?_⟩; (· ((repeat (first | go_big_quiet_skip | (go_big_quiet_want; first | (refine q_loadM ?_; simp only [Act.put, List.setIfInBounds_toArray, List.set_cons_zero, List.set_cons_succ]; go_big_quiet_on) | (refine q_load ?_; simp only [Act.put, List.setIfInBounds_toArray, List.set_cons_zero, List.set_cons_succ]; go_big_quiet_on) | (go_big_quiet_op; first | go_big_quiet_on | (apply Exists.intro; refine ⟨fun g => ?_, ?_⟩; (· (have hl := growL g; first | (go_at_call 40; with_reducible exact grow_ret (image_S _ HT.out hp hyi hx13)) | (go_at_call 19; with_reducible exact grow_ret (Has_P t _ _ _ A2 _ (by omega) (PtsE.of rfl findPts) HB0.out)))); go_big_quiet_on))))); exact rfl)); obtain ⟨⟨q10, k10⟩, -⟩ := hg; have hs := hl.out.size; (try simp at hs); dsimp only at q10 k10; (try simp at q10); have l10 := k10.lt; clear hd; simp only [List.map_cons, List.map_nil, puts, Act.put, List.setIfInBounds_toArray, List.set_cons_zero, List.set_cons_succ, List.drop_succ_cons, List.drop_zero]; generalize g 10 = g10 at *; skip))
            go_roundw
            case rel => exact ⟨q + 1, by omega, by go_num, by rw [E1.out, List.length_append]; exact ho, findLow, (by first | omega | (simp; omega))⟩
            case measure => (simp [intOf]; try omega)
          · have E1 : Hid (innP n ms A x (q + 1) = A2) := Lib.hid (by rw [HSu.out, if_pos (of_decide_eq_true hb0)])
            have HB0 := Lib.hid hb0
            clear hb0 HSu
            go_wp2_with (first | (refine wl_loadM ?_) | (refine wl_load ?_) | (refine wl_fill1 ?_) | (refine wl_fill2 ?_) | (refine wl_storeM ?_) | (refine wl_makeM ?_; intro gm W' hgm hl hT; have hs := hl.out.size; (try simp at hs)) | (refine wl_store (h1 := mC_one _) ?_) | (refine wl_sliceM ?_) | (refine wl_append (he := eltMp) (h1 := mC_one _) ?_; intro v' w' ho hg hb; have hs := hg.size; (try simp at hs); rw [mCs_snoc] at ho; (try obtain ⟨gz, cz, rfl, hzb, hzl, -⟩ := OwnK.maps ho (by simp) (by omega))) | (refine wl_mapLook true ?_ (hM := findGom) (hv := by (first | exact decide_eq_true (by assumption)))) | (refine wl_mapLook false ?_ (hM := findGom) (hv := by (first | exact decide_eq_false (by assumption)))) | (refine wl_store ?_) | (refine wl_build ?_) | (refine wl_slice ?_) | (refine wl_slice2 ?_) | (refine wl_append ?_; intro v' w' ho hg hb; have hs := hg.size; (try simp at hs); (try rw [ptCs_end] at ho); (try rw [ints_end] at ho); (try simp only [Nat.zero_add, Nat.reduceAdd, List.nil_append, List.cons_append] at ho)) | (go_at_call 40; (with_reducible refine (image_S _ HT.out hp hyi hx13).mono ?_); rintro e w' ⟨rfl, hb⟩; have hl := Link.mk hb; have hs := hb.size; (try simp at hs); clear hb) | (go_at_call 19; (with_reducible refine (Has_P t _ _ _ A2 _ (by omega) (PtsE.of rfl findPts) HB0.out).mono ?_); rintro e w' ⟨rfl, hb⟩; have hl := Link.mk hb; have hs := hb.size; (try simp at hs); clear hb) | ((with_reducible apply region_gd (id := 8)); refine region_QNA (id := 8) 11 [⟨10, 10, #[.int .i64 0, .int .i64 0, .int .i64 0], 34⟩] (.k (.k (.k (.k (.k (.k (.k (.k (.k (.k (.d (.d .n)))))))))))) ⟨(fun o ho ρ W => by obtain rfl : _ = o := Option.some.inj ho; simp [execOp, go_sem]), trivial⟩ ?_; apply Exists.intro; refine ⟨fun G => ?_, fun g W hl hg hd => ?_⟩; (· ((repeat (first | go_big_quiet_skip | (go_big_quiet_want; first | (refine q_loadM ?_; simp only [Act.put, List.setIfInBounds_toArray, List.set_cons_zero, List.set_cons_succ]; go_big_quiet_on) | (refine q_load ?_; simp only [Act.put, List.setIfInBounds_toArray, List.set_cons_zero, List.set_cons_succ]; go_big_quiet_on) | (go_big_quiet_op; first | go_big_quiet_on | (apply Exists.intro; refine ⟨fun g => ?_, ?_⟩; (· (have hl := growL g; first | (go_at_call 40; with_reducible exact grow_ret (image_S _ HT.out hp hyi hx13)) | (go_at_call 19; with_reducible exact grow_ret (Has_P t _ _ _ A2 _ (by omega) (PtsE.of rfl findPts) HB0.out)))); go_big_quiet_on))))); exact rfl)); obtain ⟨⟨q10, k10⟩, -⟩ := hg; have hs := hl.out.size; (try simp at hs); dsimp only at q10 k10; (try simp at q10); have l10 := k10.lt; clear hd; simp only [List.map_cons, List.map_nil, puts, Act.put, List.setIfInBounds_toArray, List.set_cons_zero, List.set_cons_succ, List.drop_succ_cons, List.drop_zero]; generalize g 10 = g10 at *; skip))
            go_roundw
            case rel => exact ⟨q + 1, by omega, by go_num, by rw [E1.out]; exact findOwn, findLow, (by first | omega | (simp; omega))⟩
            case measure => (simp [intOf]; try omega)
        · obtain rfl : k = q := by omega
          have es := seqP_succ HAA.out HX.out hml
          obtain ⟨A2, hA2⟩ : ∃ A2, innP n ms A x k = A2 := ⟨_, rfl⟩
          rw [hA2] at hO hpre es
          have HE := Lib.hid es
          clear hA2 es
          go_wp2_with (first | (refine wl_loadM ?_) | (refine wl_load ?_) | (refine wl_fill1 ?_) | (refine wl_fill2 ?_) | (refine wl_storeM ?_) | (refine wl_makeM ?_; intro gm W' hgm hl hT; have hs := hl.out.size; (try simp at hs)) | (refine wl_store (h1 := mC_one _) ?_) | (refine wl_sliceM ?_) | (refine wl_append (he := eltMp) (h1 := mC_one _) ?_; intro v' w' ho hg hb; have hs := hg.size; (try simp at hs); rw [mCs_snoc] at ho; (try obtain ⟨gz, cz, rfl, hzb, hzl, -⟩ := OwnK.maps ho (by simp) (by omega))) | (refine wl_mapLook true ?_ (hM := findGom) (hv := by (first | exact decide_eq_true (by assumption)))) | (refine wl_mapLook false ?_ (hM := findGom) (hv := by (first | exact decide_eq_false (by assumption)))) | (refine wl_store ?_) | (refine wl_build ?_) | (refine wl_slice ?_) | (refine wl_slice2 ?_) | (refine wl_append ?_; intro v' w' ho hg hb; have hs := hg.size; (try simp at hs); (try rw [ptCs_end] at ho); (try rw [ints_end] at ho); (try simp only [Nat.zero_add, Nat.reduceAdd, List.nil_append, List.cons_append] at ho)) | ((with_reducible apply region_gd (id := 8)); refine region_QNA (id := 8) 11 [⟨10, 10, #[.int .i64 0, .int .i64 0, .int .i64 0], 34⟩] (.k (.k (.k (.k (.k (.k (.k (.k (.k (.k (.d (.d .n)))))))))))) ⟨(fun o ho ρ W => by obtain rfl : _ = o := Option.some.inj ho; simp [execOp, go_sem]), trivial⟩ ?_; apply Exists.intro; refine ⟨fun G => ?_, fun g W hl hg hd => ?_⟩; (· ((repeat (first | go_big_quiet_skip | (go_big_quiet_want; first | (refine q_loadM ?_; simp only [Act.put, List.setIfInBounds_toArray, List.set_cons_zero, List.set_cons_succ]; go_big_quiet_on) | (refine q_load ?_; simp only [Act.put, List.setIfInBounds_toArray, List.set_cons_zero, List.set_cons_succ]; go_big_quiet_on) | (go_big_quiet_op; first | go_big_quiet_on)))); exact rfl)); obtain ⟨⟨q10, k10⟩, -⟩ := hg; have hs := hl.out.size; (try simp at hs); dsimp only at q10 k10; (try simp at q10); have l10 := k10.lt; clear hd; simp only [List.map_cons, List.map_nil, puts, Act.put, List.setIfInBounds_toArray, List.set_cons_zero, List.set_cons_succ, List.drop_succ_cons, List.drop_zero]; generalize g 10 = g10 at *; skip))
          go_roundw
          case rel =>
            refine ⟨i + 1, fun j hj => ?_, by rw [HE.out]; omega, by go_num, by rw [HE.out]; exact findOwn, findLow, (by first | omega | (simp; omega))⟩
            by_cases ej : j = i
            · subst ej; rw [HAA.out]; exact hlt
            · exact hG j (by omega)
          case measure => (simp [intOf]; try omega)
    · have hie : A.length = i := by omega
      obtain rfl : i = K := RunP.fin HK.out hG (by rw [HAA.out, hie])
      have hSA : S = A := by rw [← HS.out, HAA.out]
      subst hSA
      go_wp2_with (first | (refine wl_loadM ?_) | (refine wl_load ?_) | (refine wl_fill1 ?_) | (refine wl_fill2 ?_) | (refine wl_storeM ?_) | (refine wl_makeM ?_; intro gm W' hgm hl hT; have hs := hl.out.size; (try simp at hs)) | (refine wl_store (h1 := mC_one _) ?_) | (refine wl_sliceM ?_) | (refine wl_append (he := eltMp) (h1 := mC_one _) ?_; intro v' w' ho hg hb; have hs := hg.size; (try simp at hs); rw [mCs_snoc] at ho; (try obtain ⟨gz, cz, rfl, hzb, hzl, -⟩ := OwnK.maps ho (by simp) (by omega))) | (refine wl_mapLook true ?_ (hM := findGom) (hv := by (first | exact decide_eq_true (by assumption)))) | (refine wl_mapLook false ?_ (hM := findGom) (hv := by (first | exact decide_eq_false (by assumption)))) | (refine wl_store ?_) | (refine wl_build ?_) | (refine wl_slice ?_) | (refine wl_slice2 ?_) | (refine wl_append ?_; intro v' w' ho hg hb; have hs := hg.size; (try simp at hs); (try rw [ptCs_end] at ho); (try rw [ints_end] at ho); (try simp only [Nat.zero_add, Nat.reduceAdd, List.nil_append, List.cons_append] at ho)) | ((with_reducible apply region_gd (id := 8)); refine region_QNA (id := 8) 11 [⟨10, 10, #[.int .i64 0, .int .i64 0, .int .i64 0], 34⟩] (.k (.k (.k (.k (.k (.k (.k (.k (.k (.k (.d (.d .n)))))))))))) ⟨(fun o ho ρ W => by obtain rfl : _ = o := Option.some.inj ho; simp [execOp, go_sem]), trivial⟩ ?_; apply Exists.intro; refine ⟨fun G => ?_, fun g W hl hg hd => ?_⟩; (· ((repeat (first | go_big_quiet_skip | (go_big_quiet_want; first | (refine q_loadM ?_; simp only [Act.put, List.setIfInBounds_toArray, List.set_cons_zero, List.set_cons_succ]; go_big_quiet_on) | (refine q_load ?_; simp only [Act.put, List.setIfInBounds_toArray, List.set_cons_zero, List.set_cons_succ]; go_big_quiet_on) | (go_big_quiet_op; first | go_big_quiet_on)))); exact rfl)); obtain ⟨⟨q10, k10⟩, -⟩ := hg; have hs := hl.out.size; (try simp at hs); dsimp only at q10 k10; (try simp at q10); have l10 := k10.lt; clear hd; simp only [List.map_cons, List.map_nil, puts, Act.put, List.setIfInBounds_toArray, List.set_cons_zero, List.set_cons_succ, List.drop_succ_cons, List.drop_zero]; generalize g 10 = g10 at *; skip))
      (apply ret_one Try.results20; (conv => lhs; whnf); exact rfl)
      exact ⟨_, _, rfl, by subst hB; exact findOwn, findLow, findPts⟩
def pC2 (p q : Pt) : Array Value := #[.int .i64 p.1, .int .i64 p.2.1, .int .i64 p.2.2, .int .i64 q.1, .int .i64 q.2.1, .int .i64 q.2.2]
/-- A slice literal of two points. -/
theorem wl_slice2 {ops : Array Oper} {rest : List Oper} {o : Oper} {a : Act} {w : World} {Q : Exit → Act → World → Prop} {t e : TypeId} {x y : Operand} {p q : Pt} (h : wpList Try.prog ops Q rest (a.put o.dst (.slice (some ⟨w.heap.size, 0, none⟩) 2 2)) (w.alloc (.cells (pC2 p q) e))) (hgd : o.guard = none := by exact rfl) (ho : o.op = .buildSlice t 2 #[(0, x), (1, y)] := by exact rfl)
    (he : EltK Try.prog t e 3 := by (first | exact eltPo | exact eltI64 | exact eltInt)) (hx : a.eval x = pV p := by exact rfl) (hy : a.eval y = pV q := by exact rfl) : wpList Try.prog ops Q (o :: rest) a w := by
  obtain ⟨hu, i, z, hi, hz, hsz, hzs, hpos, hle, hby⟩ := he.out
  refine wpList_buildSlice hgd t e 2 _ ho (pC2 p q) i z hu hi hz (by rw [hsz]; decide) (by rw [hsz]; decide) ?_ h
  simp only [List.map_toArray, List.map_cons, List.map_nil, hx, hy, hsz]
  generalize z.cells = zc at hzs
  have e1 : (Array.range (2 * 3)).map (fun k => zc[k % zc.size]!) = #[zc[0]!, zc[1]!, zc[2]!, zc[0]!, zc[1]!, zc[2]!] := by
    rw [hzs]
    apply Array.ext
    · simp
    · intro i h1 h2
      simp at h1
      match i, h1 with
      | 0, _ => simp
      | 1, _ => simp
      | 2, _ => simp
      | 3, _ => simp
      | 4, _ => simp
      | 5, _ => simp
  rw [e1]
  rfl
theorem PtsK.two {W : World} {g : Nat} {T : TypeId} {p q : Pt} (h : RowK W g (pC2 p q) T) : PtsK W g 0 2 [p, q] := by
  refine ⟨fun i hi => ?_⟩
  rcases (show i = 0 ∨ i = 1 by omega) with rfl | rfl <;> (refine ⟨?_, ?_, ?_⟩ <;> (rw [cell_of_row W g _ _ _ _ h.out]; rfl))
theorem l10Maps_two (p : Int) (b : Option Addr) (n k : Nat) (L : List M9) (g kp : Nat) (x y : Pt) (w : World) (hn : n ≤ 1000000) (h : ListM w b n L) (hP : PtsK w g 0 2 [x, y]) {v : Int} (hv : codeML p n (oksM p L && ptsB p [x, y]) = v) :
    Calls Try.prog 17 #[.int .i64 p, .slice b n k, .slice (some ⟨g, 0, none⟩) 2 kp] w (Ret w (.int .i64 v)) := by
  rw [← hv]; exact l10Maps_M p b n k L _ 2 kp [x, y] w hn (by decide) h (fun W l => .inr ⟨g, rfl, rfl, hP.link l⟩)
theorem listCode_two (p : Int) (b : Option Addr) (n k : Nat) (L : List M9) (g kp : Nat) (x y : Pt) (w : World) (hn : n ≤ 1000000) (h : ListM w b n L) (hP : PtsK w g 0 2 [x, y]) {v : Int} (hv : codeML p n (oksM p L && ptsB p [x, y]) = v) :
    Calls Try.prog 15 #[.int .i64 p, .slice b n k, .slice (some ⟨g, 0, none⟩) 2 kp] w (Ret w (.int .i64 v)) := by
  rw [← hv]; exact listCode_M p b n k L _ 2 kp [x, y] w hn (by decide) h ⟨rfl, fun _ => ⟨g, 0, rfl, hP.out⟩⟩
set_option maxRecDepth 20000 in
set_option maxHeartbeats 8000000 in
theorem AreInOneOrbit_spec_code (p : Int) (b : Option Addr) (k c : Nat) (ms : List M9) (x y : Pt) (w : World) (hk : k ≤ 1000000) (hms : ListM w b k ms) {cd : Int} (hcode : codeML p k (oksM p ms && ptsB p [x, y]) = cd) (hc : ¬ cd = 0) :
    Calls Try.prog 13 #[.int .i64 p, .slice b k c, pV x, pV y] w (Ret w (.tuple #[.bool false, .int .i64 cd])) := by
  have HV := Lib.hid hcode
  clear hcode
  go_enter Try.func13, Try.ntmps13
  go_wp2_with (first | (refine wl_loadM ?_) | (refine wl_load ?_) | (refine wl_fill1 ?_) | (refine wl_fill2 ?_) | (refine wl_storeM ?_) | (refine wl_makeM ?_; intro gm W' hgm hl hT; have hs := hl.out.size; (try simp at hs)) | (refine wl_store (h1 := mC_one _) ?_) | (refine wl_sliceM ?_) | (refine wl_append (he := eltMp) (h1 := mC_one _) ?_; intro v' w' ho hg hb; have hs := hg.size; (try simp at hs); rw [mCs_snoc] at ho; (try obtain ⟨gz, cz, rfl, hzb, hzl, -⟩ := OwnK.maps ho (by simp) (by omega))) | (refine wl_mapLook true ?_ (hM := findGom) (hv := by (first | exact decide_eq_true (by assumption)))) | (refine wl_mapLook false ?_ (hM := findGom) (hv := by (first | exact decide_eq_false (by assumption)))) | (refine wl_store ?_) | (refine wl_build ?_) | (refine wl_slice ?_) | (refine wl_slice2 ?_) | (refine wl_append ?_; intro v' w' ho hg hb; have hs := hg.size; (try simp at hs); (try rw [ptCs_end] at ho); (try rw [ints_end] at ho); (try simp only [Nat.zero_add, Nat.reduceAdd, List.nil_append, List.cons_append] at ho)) | (go_at_call 17; (with_reducible refine (l10Maps_two p b k c ms _ _ x y _ hk (hms.link (LowK.lnk findLow)) (PtsK.two findRow) HV.out).mono ?_); rintro e w' ⟨rfl, hb⟩; have hl := Link.mk hb; have hs := hb.size; (try simp at hs); clear hb) | ((with_reducible apply region_gd (id := 4)); refine region_QA (id := 4) 8 ?_; apply Exists.intro; refine ⟨fun G => ?_, fun W hl => ?_⟩; (· (simp only [List.take_succ_cons, List.take_zero]; (repeat (first | go_big_quiet_skip | (go_big_quiet_want; first | (refine q_loadM ?_; simp only [Act.put, List.setIfInBounds_toArray, List.set_cons_zero, List.set_cons_succ]; go_big_quiet_on) | (refine q_load ?_; simp only [Act.put, List.setIfInBounds_toArray, List.set_cons_zero, List.set_cons_succ]; go_big_quiet_on) | (go_big_quiet_op; first | go_big_quiet_on | (apply Exists.intro; refine ⟨fun g => ?_, ?_⟩; (· (have hl := growL g; first | (go_at_call 17; with_reducible exact grow_ret (l10Maps_two p b k c ms _ _ x y _ hk (hms.link (LowK.lnk findLow)) (PtsK.two findRow) HV.out)))); go_big_quiet_on))))); exact rfl)); have hs := hl.out.size; (try simp at hs); simp only [List.drop_succ_cons, List.drop_zero]))
  (apply ret_two Try.results13; (conv => lhs; whnf); (conv => lhs; whnf); exact rfl)
  exact ret_ret rfl findLow
set_option maxRecDepth 20000 in
set_option maxHeartbeats 8000000 in
theorem AreInOneOrbit_spec_core (n : Nat) (b : Option Addr) (k c : Nat) (ms : List M9) (x y : Pt) (K : Nat) (S : List Pt) (w : World) (h : MsOk n ms) (hk : k ≤ 8) (hms : ListM w b k ms) (hx : x ∈ allP n) (hcode : codeML (n : Int) k (oksM (n : Int) ms && ptsB (n : Int) [x, y]) = 0) (hK : WholeP n ms x K) (hS : seqP n ms x K = S) {v : Bool} (hv : decide (y ∈ S) = v) :
    Calls Try.prog 13 #[.int .i64 (n : Int), .slice b k c, pV x, pV y] w (Ret w (.tuple #[.bool v, .int .i64 0])) := by
  obtain ⟨h3, h13⟩ := h.n13
  have HV := Lib.hid hcode
  have HO := Lib.hid (fun (w : World) (hms : ListM w b k ms) => Orbit_S n b k c ms x K S w h hk hms hx hK hS)
  have HD := Lib.hid hv
  have hlen : S.length ≤ 1000000 := by
    rw [← hS]
    have hr : RunP n ms x K := hK.run
    have := len183 h13 (seqP_nodup n ms x K) (hr.in h hx)
    omega
  clear hcode hK hS hv
  go_enter Try.func13, Try.ntmps13
  go_wp2_with (first | (refine wl_loadM ?_) | (refine wl_load ?_) | (refine wl_fill1 ?_) | (refine wl_fill2 ?_) | (refine wl_storeM ?_) | (refine wl_makeM ?_; intro gm W' hgm hl hT; have hs := hl.out.size; (try simp at hs)) | (refine wl_store (h1 := mC_one _) ?_) | (refine wl_sliceM ?_) | (refine wl_append (he := eltMp) (h1 := mC_one _) ?_; intro v' w' ho hg hb; have hs := hg.size; (try simp at hs); rw [mCs_snoc] at ho; (try obtain ⟨gz, cz, rfl, hzb, hzl, -⟩ := OwnK.maps ho (by simp) (by omega))) | (refine wl_mapLook true ?_ (hM := findGom) (hv := by (first | exact decide_eq_true (by assumption)))) | (refine wl_mapLook false ?_ (hM := findGom) (hv := by (first | exact decide_eq_false (by assumption)))) | (refine wl_store ?_) | (refine wl_build ?_) | (refine wl_slice ?_) | (refine wl_slice2 ?_) | (refine wl_append ?_; intro v' w' ho hg hb; have hs := hg.size; (try simp at hs); (try rw [ptCs_end] at ho); (try rw [ints_end] at ho); (try simp only [Nat.zero_add, Nat.reduceAdd, List.nil_append, List.cons_append] at ho)) | (go_at_call 17; (with_reducible refine (l10Maps_two n b k c ms _ _ x y _ (by omega) (hms.link (LowK.lnk findLow)) (PtsK.two findRow) HV.out).mono ?_); rintro e w' ⟨rfl, hb⟩; have hl := Link.mk hb; have hs := hb.size; (try simp at hs); clear hb) | ((with_reducible apply region_gd (id := 4)); refine region_QA (id := 4) 8 ?_; apply Exists.intro; refine ⟨fun G => ?_, fun W hl => ?_⟩; (· (simp only [List.take_succ_cons, List.take_zero]; (repeat (first | go_big_quiet_skip | (go_big_quiet_want; first | (refine q_loadM ?_; simp only [Act.put, List.setIfInBounds_toArray, List.set_cons_zero, List.set_cons_succ]; go_big_quiet_on) | (refine q_load ?_; simp only [Act.put, List.setIfInBounds_toArray, List.set_cons_zero, List.set_cons_succ]; go_big_quiet_on) | (go_big_quiet_op; first | go_big_quiet_on | (apply Exists.intro; refine ⟨fun g => ?_, ?_⟩; (· (have hl := growL g; first | (go_at_call 17; with_reducible exact grow_ret (l10Maps_two n b k c ms _ _ x y _ (by omega) (hms.link (LowK.lnk findLow)) (PtsK.two findRow) HV.out)))); go_big_quiet_on))))); exact rfl)); have hs := hl.out.size; (try simp at hs); simp only [List.drop_succ_cons, List.drop_zero]))
  refine region_CHA (id := 4) 6 [3, 5] (fun W => LowK w W ∧ RowK W w.heap.size (pC x) 34 ∧ RowK W (w.heap.size + 1) (pC y) 34) (.k (.k (.k (.d (.k (.d (.d (.d .n)))))))) (.d (.d (.d (.k (.d (.k (.d (.d .n)))))))) (fun W W' h l => ⟨LowK.link l h.1, h.2.1.link l, h.2.2.link l⟩) ⟨findLow, findRow, findRow⟩ ?_
  apply Exists.intro
  refine ⟨fun W0 hk G => ?_, ?_⟩
  · obtain ⟨k1, k2, k3⟩ := hk
    repeat (first | go_big_quiet_skip | (go_big_quiet_want; first | (refine q_loadM ?_; simp only [Act.put, List.setIfInBounds_toArray, List.set_cons_zero, List.set_cons_succ]; go_big_quiet_on) | (refine q_load ?_; simp only [Act.put, List.setIfInBounds_toArray, List.set_cons_zero, List.set_cons_succ]; go_big_quiet_on) | (go_big_quiet_op; first | go_big_quiet_on)))
    exact rfl
  refine ch_step fun W1 hl1 => ?_
  have hs1 := hl1.out.size
  (try simp at hs1)
  go_wp2_with (first | (refine wl_loadM ?_) | (refine wl_load ?_) | (refine wl_fill1 ?_) | (refine wl_fill2 ?_) | (refine wl_storeM ?_) | (refine wl_makeM ?_; intro gm W' hgm hl hT; have hs := hl.out.size; (try simp at hs)) | (refine wl_store (h1 := mC_one _) ?_) | (refine wl_sliceM ?_) | (refine wl_append (he := eltMp) (h1 := mC_one _) ?_; intro v' w' ho hg hb; have hs := hg.size; (try simp at hs); rw [mCs_snoc] at ho; (try obtain ⟨gz, cz, rfl, hzb, hzl, -⟩ := OwnK.maps ho (by simp) (by omega))) | (refine wl_mapLook true ?_ (hM := findGom) (hv := by (first | exact decide_eq_true (by assumption)))) | (refine wl_mapLook false ?_ (hM := findGom) (hv := by (first | exact decide_eq_false (by assumption)))) | (refine wl_store ?_) | (refine wl_build ?_) | (refine wl_slice ?_) | (refine wl_slice2 ?_) | (refine wl_append ?_; intro v' w' ho hg hb; have hs := hg.size; (try simp at hs); (try rw [ptCs_end] at ho); (try rw [ints_end] at ho); (try simp only [Nat.zero_add, Nat.reduceAdd, List.nil_append, List.cons_append] at ho)) | (go_at_call 20; (with_reducible refine (HO.out _ (hms.link (LowK.lnk findLow))).mono ?_); rintro e w' ⟨g, cap, rfl, ho, hb, hPt⟩; have hl2 := LowK.lnk hb; have hs := hb.size) | ((with_reducible apply region_gd (id := 4)); refine region_QA (id := 4) 8 ?_; apply Exists.intro; refine ⟨fun G => ?_, fun W hl => ?_⟩; (· (simp only [List.take_succ_cons, List.take_zero]; (repeat (first | go_big_quiet_skip | (go_big_quiet_want; first | (refine q_loadM ?_; simp only [Act.put, List.setIfInBounds_toArray, List.set_cons_zero, List.set_cons_succ]; go_big_quiet_on) | (refine q_load ?_; simp only [Act.put, List.setIfInBounds_toArray, List.set_cons_zero, List.set_cons_succ]; go_big_quiet_on) | (go_big_quiet_op; first | go_big_quiet_on)))); exact rfl)); have hs := hl.out.size; (try simp at hs); simp only [List.drop_succ_cons, List.drop_zero]))
  refine ⟨rfl, ⟨_, rfl⟩, ⟨findLow, findRow, findRow⟩, ?_⟩
  refine ch_step fun W2 hl3 => ?_
  have hs2 := hl3.out.size
  (try simp at hs2)
  go_wp2_with (first | (refine wl_loadM ?_) | (refine wl_load ?_) | (refine wl_fill1 ?_) | (refine wl_fill2 ?_) | (refine wl_storeM ?_) | (refine wl_makeM ?_; intro gm W' hgm hl hT; have hs := hl.out.size; (try simp at hs)) | (refine wl_store (h1 := mC_one _) ?_) | (refine wl_sliceM ?_) | (refine wl_append (he := eltMp) (h1 := mC_one _) ?_; intro v' w' ho hg hb; have hs := hg.size; (try simp at hs); rw [mCs_snoc] at ho; (try obtain ⟨gz, cz, rfl, hzb, hzl, -⟩ := OwnK.maps ho (by simp) (by omega))) | (refine wl_mapLook true ?_ (hM := findGom) (hv := by (first | exact decide_eq_true (by assumption)))) | (refine wl_mapLook false ?_ (hM := findGom) (hv := by (first | exact decide_eq_false (by assumption)))) | (refine wl_store ?_) | (refine wl_build ?_) | (refine wl_slice ?_) | (refine wl_slice2 ?_) | (refine wl_append ?_; intro v' w' ho hg hb; have hs := hg.size; (try simp at hs); (try rw [ptCs_end] at ho); (try rw [ints_end] at ho); (try simp only [Nat.zero_add, Nat.reduceAdd, List.nil_append, List.cons_append] at ho)) | (go_at_call 19; (with_reducible refine (Has_P y _ _ _ S _ hlen (PtsE.of rfl findPts) HD.out).mono ?_); rintro e w' ⟨rfl, hb⟩; have hl := Link.mk hb; have hs := hb.size; (try simp at hs); clear hb) | ((with_reducible apply region_gd (id := 4)); refine region_QA (id := 4) 8 ?_; apply Exists.intro; refine ⟨fun G => ?_, fun W hl => ?_⟩; (· (simp only [List.take_succ_cons, List.take_zero]; (repeat (first | go_big_quiet_skip | (go_big_quiet_want; first | (refine q_loadM ?_; simp only [Act.put, List.setIfInBounds_toArray, List.set_cons_zero, List.set_cons_succ]; go_big_quiet_on) | (refine q_load ?_; simp only [Act.put, List.setIfInBounds_toArray, List.set_cons_zero, List.set_cons_succ]; go_big_quiet_on) | (go_big_quiet_op; first | go_big_quiet_on | (apply Exists.intro; refine ⟨fun g => ?_, ?_⟩; (· (have hl := growL g; first | (go_at_call 19; with_reducible exact grow_ret (Has_P y _ _ _ S _ hlen (PtsE.of rfl findPts) HD.out)))); go_big_quiet_on))))); exact rfl)); have hs := hl.out.size; (try simp at hs); simp only [List.drop_succ_cons, List.drop_zero]))
  refine ⟨rfl, ⟨_, rfl⟩, ⟨findLow, findRow, findRow⟩, ?_⟩
  refine ch_nil fun W3 hl5 => ?_
  have hs3 := hl5.out.size
  (try simp at hs3)
  (try simp only [List.drop_succ_cons, List.drop_zero])
  go_wp2_with (first | (refine wl_loadM ?_) | (refine wl_load ?_) | (refine wl_fill1 ?_) | (refine wl_fill2 ?_) | (refine wl_storeM ?_) | (refine wl_makeM ?_; intro gm W' hgm hl hT; have hs := hl.out.size; (try simp at hs)) | (refine wl_store (h1 := mC_one _) ?_) | (refine wl_sliceM ?_) | (refine wl_append (he := eltMp) (h1 := mC_one _) ?_; intro v' w' ho hg hb; have hs := hg.size; (try simp at hs); rw [mCs_snoc] at ho; (try obtain ⟨gz, cz, rfl, hzb, hzl, -⟩ := OwnK.maps ho (by simp) (by omega))) | (refine wl_mapLook true ?_ (hM := findGom) (hv := by (first | exact decide_eq_true (by assumption)))) | (refine wl_mapLook false ?_ (hM := findGom) (hv := by (first | exact decide_eq_false (by assumption)))) | (refine wl_store ?_) | (refine wl_build ?_) | (refine wl_slice ?_) | (refine wl_slice2 ?_) | (refine wl_append ?_; intro v' w' ho hg hb; have hs := hg.size; (try simp at hs); (try rw [ptCs_end] at ho); (try rw [ints_end] at ho); (try simp only [Nat.zero_add, Nat.reduceAdd, List.nil_append, List.cons_append] at ho)) | ((with_reducible apply region_gd (id := 4)); refine region_QA (id := 4) 8 ?_; apply Exists.intro; refine ⟨fun G => ?_, fun W hl => ?_⟩; (· (simp only [List.take_succ_cons, List.take_zero]; (repeat (first | go_big_quiet_skip | (go_big_quiet_want; first | (refine q_loadM ?_; simp only [Act.put, List.setIfInBounds_toArray, List.set_cons_zero, List.set_cons_succ]; go_big_quiet_on) | (refine q_load ?_; simp only [Act.put, List.setIfInBounds_toArray, List.set_cons_zero, List.set_cons_succ]; go_big_quiet_on) | (go_big_quiet_op; first | go_big_quiet_on)))); exact rfl)); have hs := hl.out.size; (try simp at hs); simp only [List.drop_succ_cons, List.drop_zero]))
  (apply ret_two Try.results13; (conv => lhs; whnf); (conv => lhs; whnf); exact rfl)
  exact ret_ret rfl findLow
end Go.Proofs.Ytnpmdchphaenaaa
/- Plain words: Desargues' theorem modulo a prime. -/
namespace Go.Proofs.Ytnpmdchphaenaaa
set_option linter.unusedVariables false
set_option linter.unusedSimpArgs false
end Go.Proofs.Ytnpmdchphaenaaa
/- Plain words: what DesarguesLine returns, and what both makings lean on. -/
namespace Go.Proofs.Ytnpmdchphaenaaa
set_option linter.unusedVariables false
set_option linter.unusedSimpArgs false
end Go.Proofs.Ytnpmdchphaenaaa
/- Contracts: the program's PappusLine, walked. (Printed by genp5.py, a program of this session.) -/
namespace Go.Proofs.Ytnpmdchphaenaaa
open Go.RowKit
set_option linter.unusedVariables false
set_option linter.unusedSimpArgs false
end Go.Proofs.Ytnpmdchphaenaaa
/- Contracts: the reference's PappusLine, walked. (Printed by genp6.py, a program of this session.) -/
namespace Go.Proofs.Ytnpmdchphaenaaa
open Go.RowKit
set_option linter.unusedVariables false
set_option linter.unusedSimpArgs false
end Go.Proofs.Ytnpmdchphaenaaa
/- Contracts: pointsThat, for each closure that is handed to it. (Printed by genthat.py, a program of this session.) -/
namespace Go.Proofs.Ytnpmdchphaenaaa
open Go.RowKit
set_option linter.unusedVariables false
set_option linter.unusedSimpArgs false
end Go.Proofs.Ytnpmdchphaenaaa
/- Contracts: the two closures of QuadranglePoint. -/
namespace Go.Proofs.Ytnpmdchphaenaaa
open Go.RowKit
set_option linter.unusedVariables false
set_option linter.unusedSimpArgs false
end Go.Proofs.Ytnpmdchphaenaaa
/- Contracts: the fourth harmonic point: the reference. -/
namespace Go.Proofs.Ytnpmdchphaenaaa
open Go.RowKit
set_option linter.unusedVariables false
set_option linter.unusedSimpArgs false
theorem eqgPo : Try.prog.eqGuardType Try.prog.depth 34 = false := by kernel_rfl
theorem calm_eqPo {o : Oper} {ρ : Operand → Value} {W : World} {k : TypeId} (x y : Operand) {a0 a1 a2 b0 b1 b2 : Int} {v : Bool} (ho : o.op = .binOp .eql 34 x y k) (hx : ρ x = ptV a0 a1 a2) (hy : ρ y = ptV b0 b1 b2) (hv : eqP (a0, a1, a2) (b0, b1, b2) = v) : calmAt Try.prog o ρ W (.bool v) := by
  refine calm_run ?_
  unfold execOp
  subst hv
  simp only [ho, hx, hy, Sem.run_bind, run_eqGuard_agg W .eql 34 x y _ _ eqgPo, Result.andThen_ok, eqPo, Sem.run_pure]
/-- What the walks lean on, the points named. -/
structure QuadAt (n : Nat) (A B C L R S s V1 V2 t V3 V4 u V5 o : Pt) : Prop where
  eq : quadR n A B C = (o, 0)
  hp : prB (n : Int) = true
  n3 : 3 ≤ n ∧ n ≤ 13
  iA : In13 A
  iB : In13 B
  iC : In13 C
  iR : In13 R
  is : In13 s
  iL : In13 L
  iS : In13 S
  i1 : In13 V1
  i2 : In13 V2
  it : In13 t
  i3 : In13 V3
  i4 : In13 V4
  iu : In13 u
  i5 : In13 V5
  eL : crsN n A B = L
  offL : ∃ x ∈ allP n, onB (n : Int) x L = false
  eR : headP ((allP n).filter (fun x => !onB (n : Int) x L)) = R
  eS : crsN n A R = S
  onS : ∃ x ∈ allP n, (onB (n : Int) x S = true ∧ x ≠ A ∧ x ≠ R)
  es : headP ((allP n).filter (fun x => onB (n : Int) x S && (!eqP x A && !eqP x R))) = s
  e1 : crsN n B s = V1
  e2 : crsN n C R = V2
  et : crsN n V1 V2 = t
  e3 : crsN n B R = V3
  e4 : crsN n A t = V4
  eu : crsN n V3 V4 = u
  e5 : crsN n s u = V5
  eo : crsN n L V5 = o
end Go.Proofs.Ytnpmdchphaenaaa
/- Contracts: slices.Index and slices.Contains over points; two own lists of points, with what else a walk holds. (Printed by genq3.py, a program of this session.) -/
namespace Go.Proofs.Ytnpmdchphaenaaa
open Go.RowKit
set_option linter.unusedVariables false
set_option linter.unusedSimpArgs false
/-- The number that Index hands back. -/
def IdxOf (x : Pt) (L : List Pt) (w : World) (e : Ending) (w' : World) : Prop := ∃ v : Int, e = .returned (.int .i64 v) ∧ decide (0 ≤ v) = L.any (fun b => eqP x b) ∧ Below w.heap.size w w'
set_option maxRecDepth 20000 in
set_option maxHeartbeats 4000000 in
theorem IndexP_any (x0 x1 x2 : Int) (g n c : Nat) (L : List Pt) (w : World) (hn : n ≤ 1000000) (hL : L.length = n) (hP : PtsAt w g 0 n L) :
    Calls Try.prog 51 #[.slice (some ⟨g, 0, none⟩) n c, ptV x0 x1 x2] w (IdxOf (x0, x1, x2) L w) := by
  have HP := Lib.hid hP
  have HLn := Lib.hid hL
  clear hP hL
  go_enter Try.func51, Try.ntmps51
  go_wp2
  go_loopw [8] (fun i wr => ∃ k : Nat, k ≤ n ∧ i = .int .i64 k ∧ Hid (∀ j, j < k → eqP (x0, x1, x2) (L.getD j (0, 0, 0)) = false) ∧ Hid (wr.heap[w.heap.size]? = some (.cells #[.int .i64 x0, .int .i64 x1, .int .i64 x2] 34 (0, 0))) ∧ Hid (Below w.heap.size w wr)) (fun i wr => n - (intOf i).toNat)
  case atStart => exact ⟨0, Nat.zero_le _, rfl, Lib.hid (fun j hj => absurd hj (Nat.not_lt_zero _)), Lib.hid (heap_alloc_new _ _), Lib.hid (bal (Below.refl _ _) _)⟩
  case round =>
    obtain ⟨k, hk, rfl, HA, HX, HB⟩ := hrel
    by_cases hlt : k < n
    · have hkk := (HP.out.below HB.out) k hlt
      obtain ⟨b, hb⟩ : ∃ b, L.getD k (0, 0, 0) = b := ⟨_, rfl⟩
      rw [hb] at hkk
      obtain ⟨b0, b1, b2⟩ := b
      simp only [Nat.zero_add] at hkk
      obtain ⟨c0, c1, c2⟩ := hkk
      have C0 := Lib.hid c0; have C1 := Lib.hid c1; have C2 := Lib.hid c2
      have hlx := (Array.getElem?_eq_some_iff.1 HX.out).1
      obtain ⟨eb, heb⟩ : ∃ eb, eqP (x0, x1, x2) (b0, b1, b2) = eb := ⟨_, rfl⟩
      have HEb := Lib.hid heb
      have HLb := Lib.hid hb
      clear heb hb c0 c1 c2
      go_wp2
      refine region_calmG [(11, ptV x0 x1 x2), (12, .slice (some ⟨g, 0, none⟩) n c), (13, .int .i64 (k : Int)), (14, .pointer (some ⟨g, k * 3, none⟩)), (15, ptV b0 b1 b2), (16, .bool eb)] (by kernel_rfl) (by kernel_rfl) (by kernel_rfl) (fun aE hpe => ?_)
      simp only [puts, Act.put, List.setIfInBounds_toArray, List.set_cons_zero, List.set_cons_succ] at hpe
      subst hpe
      refine ⟨⟨.inr (.inr ?_), .inr (.inr ?_), .inr (.inr ?_), .inr (.inr ?_), .inr (.inr ?_), .inr (.inr ?_), trivial⟩, ?_⟩
      · exact CalmG.mk 11 (ptV x0 x1 x2) rfl rfl rfl (fun W hW => calm_load (cs := #[.int .i64 x0, .int .i64 x1, .int .i64 x2]) (g := w.heap.size) (T := 34) (fr := (0, 0)) 34 (.tmp 3) rfl rfl ((hW.block _ hlx).trans HX.out) 3 rfl Try.sizeOf34 Try.isAgg34)
      · exact CalmG.mk 12 (.slice (some ⟨g, 0, none⟩) n c) rfl rfl rfl (fun W hW => calm_move (.tmp 0) rfl rfl)
      · exact CalmG.mk 13 (.int .i64 (k : Int)) rfl rfl rfl (fun W hW => calm_move (.tmp 5) rfl rfl)
      · exact CalmG.mk 14 (.pointer (some ⟨g, k * 3, none⟩)) rfl rfl rfl (fun W hW => calm_run (by simp [execOp, Act.eval, go_sem, Addr.add, hlt] <;> omega))
      · exact CalmG.mk 15 (ptV b0 b1 b2) rfl rfl rfl (fun W hW => calm_loadPt 34 (.tmp 14) rfl rfl (cell_below hW C0.out) (cell_below hW C1.out) (cell_below hW C2.out) Try.sizeOf34 Try.isAgg34)
      · exact CalmG.mk 16 (.bool eb) rfl rfl rfl (fun W hW => calm_eqPo (.tmp 11) (.tmp 15) rfl rfl rfl HEb.out)
      intro W hW
      have HW := Lib.hid hW
      have hws := hW.size
      clear hW
      cases eb with
      | true =>
        go_wp2
        go_ret
        refine ⟨(k : Int), rfl, ?_, low_tr' HB.out HW.out HB.out.size⟩
        rw [decide_eq_true (by omega), Eq.comm, List.any_eq_true]
        exact ⟨(b0, b1, b2), by have h9 : k < L.length := (by rw [HLn.out]; exact hlt); rw [← HLb.out, List.getD_eq_getElem?_getD, List.getElem?_eq_getElem h9]; exact List.getElem_mem h9, HEb.out⟩
      | false =>
        go_wp2
        go_roundw
        case rel => exact ⟨k + 1, by omega, by go_num, Lib.hid (fun j hj => by
          rcases Nat.lt_or_ge j k with h | h
          · exact HA.out j h
          · have : j = k := by omega
            rw [this, HLb.out]; exact HEb.out), Lib.hid ((HW.out.block _ hlx).trans HX.out), Lib.hid (low_tr' HB.out HW.out HB.out.size)⟩
        case measure => simp [intOf]; omega
    · have hkn : k = n := by omega
      go_wp2
      go_ret
      refine ⟨-1, rfl, ?_, HB.out⟩
      rw [decide_eq_false (by omega), Eq.comm, List.any_eq_false]
      intro b hb
      obtain ⟨j, hj, e⟩ := List.mem_iff_getElem.1 hb
      have := HA.out j (by rw [hkn, ← HLn.out]; exact hj)
      rw [List.getD_eq_getElem?_getD, List.getElem?_eq_getElem hj] at this
      simp only [Option.getD_some] at this
      rw [← e, this]; simp
set_option maxHeartbeats 2000000 in
theorem ContainsP_any (x0 x1 x2 : Int) (g n c : Nat) (L : List Pt) (w : World) (hn : n ≤ 1000000) (hL : L.length = n) (hP : PtsAt w g 0 n L) :
    Calls Try.prog 31 #[.slice (some ⟨g, 0, none⟩) n c, ptV x0 x1 x2] w (Ret w (.bool (L.any (fun b => eqP (x0, x1, x2) b)))) := by
  have HI := Lib.hid (fun (W : World) (hW : Below w.heap.size w W) => IndexP_any x0 x1 x2 g n c L W hn hL (hP.below hW))
  clear hP hL
  go_enter Try.func31, Try.ntmps31
  go_wp2_with (first
    | (refine wpList_load_row _ rfl 34 _ rfl (g := w.heap.size) (T := 34) (cs := #[.int .i64 x0, .int .i64 x1, .int .i64 x2]) (fr := (0, 0)) rfl (heap_alloc_new _ _) 3 rfl Try.sizeOf34 Try.isAgg34 ?_)
    | (go_at_call 51; refine (HI.out _ (bal (Below.refl _ _) _)).mono ?_; rintro e w1_ ⟨v, rfl, hv, hb⟩; have HV := Lib.hid hv; have HB1 := Lib.hid hb; clear hv hb))
  go_ret
  refine ⟨?_, (by repeat (first | exact Below.refl _ _ | refine bset ?_ _ _ (by omega) _ | refine bal ?_ _ | refine bdrN ?_ _ | refine bdr ?_ | refine below_tr' ?_ HB1.out))⟩
  rw [← HV.out]
  first | rfl | simp [Value.bool]
end Go.Proofs.Ytnpmdchphaenaaa
/- Contracts: the program's AreInOneOrbit. -- maps -- gomaps -- slice2 -- classes -/
namespace Go.Proofs.Ytnpmdchphaenaaa
open Go.RowKit
set_option linter.unusedVariables false
set_option linter.unusedSimpArgs false
theorem tabL_mem {cls : Nat → Nat} {L l : _} {N : Nat} : ∀ {i}, l ∈ tabL cls L N i → ∃ c, c < i ∧ l = filtP cls L c N
  | 0, h => by simp [tabL] at h
  | i + 1, h => by
    by_cases hp : 0 < (filtP cls L i N).length
    · rw [tabL_yes rfl hp] at h
      rcases List.mem_append.1 h with h | h
      · obtain ⟨c, h1, h2⟩ := tabL_mem h
        exact ⟨c, by omega, h2⟩
      · exact ⟨i, by omega, List.mem_singleton.1 h⟩
    · rw [tabL_no rfl hp] at h
      obtain ⟨c, h1, h2⟩ := tabL_mem h
      exact ⟨c, by omega, h2⟩
theorem tabL_has {cls : Nat → Nat} {L : List Pt} {N c : Nat} (h : 0 < (filtP cls L c N).length) : ∀ {i}, c < i → filtP cls L c N ∈ tabL cls L N i
  | 0, hc => absurd hc (Nat.not_lt_zero _)
  | i + 1, hc => by
    by_cases hp : 0 < (filtP cls L i N).length
    · rw [tabL_yes rfl hp]
      by_cases e : c = i
      · subst e; simp
      · exact List.mem_append_left _ (tabL_has h (by omega))
    · rw [tabL_no rfl hp]
      exact tabL_has h (by
        by_cases e : c = i
        · subst e; exact absurd h hp
        · omega)
/-- In the lists of the classes a point's list is its orbit. -/
structure OrbL (Ls : List (List Pt)) (x y : Pt) (v : Bool) : Prop where
  has : ∃ l ∈ Ls, x ∈ l
  all : ∀ l ∈ Ls, x ∈ l → decide (y ∈ l) = v
theorem orb_lists {n N K : Nat} {ms : List M9} {L : List Pt} (h : MsOk n ms) (hL : allP n = L) (hN : L.length = N) {x y : Pt} (hx : x ∈ L) (hy : y ∈ L) (hK : WholeP n ms x K) {S : List Pt} (hS : seqP n ms x K = S) {v : Bool} (hv : decide (y ∈ S) = v) :
    OrbL (tabL (classP n ms) L N N) x y v := by
  have hnd : L.Nodup := by rw [← hL]; exact nodup_allP h.pr
  obtain ⟨i, hi, rfl⟩ := atP_mem hx
  obtain ⟨j, hj, rfl⟩ := atP_mem hy
  subst hL
  have hc := class_P h hi hj hK
  have uniq : ∀ {a b : Nat}, a < (allP n).length → b < (allP n).length → (allP n).getD a p0 = (allP n).getD b p0 → a = b := fun {a b} ha hb e => by
    have h1 := (place_of hnd ha rfl).2
    have h2 := (place_of hnd hb rfl).2
    rw [e] at h1; rw [h1] at h2; exact h2
  have hm : ∀ {q c : Nat}, q < (allP n).length → ((allP n).getD q p0 ∈ filtP (classP n ms) (allP n) c N ↔ classP n ms q = c) := fun {q c} hq => by
    rw [filtP_mem]
    constructor
    · rintro ⟨r, hr, h1, h2⟩
      rw [← uniq (by omega) hq h2]; exact h1
    · intro e; exact ⟨q, by omega, e, rfl⟩
  have hxm := (hm hi).2 rfl
  refine ⟨⟨_, tabL_has (List.length_pos_of_mem hxm) (Nat.lt_of_le_of_lt (classP_lab n ms i).1 (by omega)), hxm⟩, fun l hl hxl => ?_⟩
  obtain ⟨c, hcN, rfl⟩ := tabL_mem hl
  have e1 := (hm hi).1 hxl
  rw [← hv, ← hS]
  have : (allP n).getD j p0 ∈ filtP (classP n ms) (allP n) c N ↔ (allP n).getD j p0 ∈ seqP n ms ((allP n).getD i p0) K := by
    rw [hm hj, ← hc, e1]
    exact ⟨fun e => e.symm, fun e => e.symm⟩
  simp only [this]
theorem any_eqP (p : Pt) (L : List Pt) : L.any (fun b => eqP p b) = decide (p ∈ L) := by
  rw [Bool.eq_iff_iff, List.any_eq_true, decide_eq_true_iff]
  constructor
  · rintro ⟨b, hb, e⟩; rw [eqP_iff.1 e]; exact hb
  · intro h; exact ⟨p, h, eqP_iff.2 rfl⟩
theorem Contains_D {p : Pt} {g n c : Nat} {L : List Pt} (w : World) (hn : n ≤ 1000000) (hL : L.length = n) (hP : PtsK w g 0 n L) {v : Bool} (hv : decide (p ∈ L) = v) : Calls Try.prog 31 #[.slice (some ⟨g, 0, none⟩) n c, pV p] w (Ret w (.bool v)) := by
  rw [← hv, ← any_eqP]; exact ContainsP_any p.1 p.2.1 p.2.2 g n c L w hn hL hP.out
/-- The table's header, read. -/
theorem OwnK.tab {W : World} {B : Nat} {v : Value} {T : List Row3} (h : OwnK W B 39 1 v T.length (tabV T)) (hn : 0 < T.length) :
    ∃ g cap, v = .slice (some ⟨g, 0, none⟩) T.length cap ∧ ∀ j, j < T.length → CellK W g j (slV (T.getD j (0, 0, []))) := by
  rcases h.out.2 with ⟨_, h0⟩ | ⟨g, cap, cur, rfl, hb, hg, hle, _, hsz, htk⟩
  · omega
  · refine ⟨g, cap, rfl, fun j hj => ⟨?_⟩⟩
    rw [cell_of_row W g j _ _ _ hg]
    have h1 : (cur.toList.take (T.length * 1))[j]? = (tabV T)[j]? := by rw [htk]
    rw [Nat.mul_one, List.getElem?_take_of_lt hj] at h1
    rw [← Array.getElem?_toList, h1]
    simp [tabV, List.getD, hj]
theorem getT_mem {T : List Row3} {j : Nat} (h : j < T.length) : T.getD j (0, 0, []) ∈ T := by rw [List.getD_eq_getElem?_getD, List.getElem?_eq_getElem h]; exact List.getElem_mem _
theorem tab_pos {Ls : List (List Pt)} {x y : Pt} {v : Bool} {T : List Row3} (h : OrbL Ls x y v) (hT : T.map (·.2.2) = Ls) : 0 < T.length := by
  obtain ⟨l, hl, -⟩ := h.has
  have := List.length_pos_of_mem hl
  rw [← hT, List.length_map] at this
  exact this
set_option maxRecDepth 20000 in
set_option maxHeartbeats 8000000 in
theorem AreInOneOrbit_impl_code (p : Int) (b : Option Addr) (k c : Nat) (ms : List M9) (x y : Pt) (w : World) (hk : k ≤ 1000000) (hms : ListM w b k ms) {cd : Int} (hcode : codeML p k (oksM p ms && ptsB p [x, y]) = cd) (hc : ¬ cd = 0) :
    Calls Try.prog 12 #[.int .i64 p, .slice b k c, pV x, pV y] w (Ret w (.tuple #[.bool false, .int .i64 cd])) := by
  have HV := Lib.hid hcode
  clear hcode
  go_enter Try.func12, Try.ntmps12
  go_wp2_with (first | (refine wl_loadJ ?_) | (refine wl_load ?_) | (refine wl_loadM ?_) | (refine wl_storeJ ?_) | (refine wl_mapNewP ?_) | (refine wl_mapUpdP (L := ?_) ?_ ?_ ?_ ?_ (ho := .inl rfl); rotate_left 2; exact findGomP; assumption; assumption; intro Wm hMm hTm; have hs := hTm.out.1; (try simp at hs); (try have hOm := OwnK.turnP hTm findGomP findOwn); (try have hVm := LowK.turnP hTm (by assumption) findLow)) | (refine wl_fill1 ?_) | (refine wl_fill2 ?_) | (refine wl_storeM ?_) | (refine wl_makeM ?_; intro gm W' hgm hl hT; have hs := hl.out.size; (try simp at hs)) | (refine wl_store (h1 := mC_one _) ?_) | (refine wl_sliceM ?_) | (refine wl_append (he := eltMp) (h1 := mC_one _) ?_; intro v' w' ho hg hb; have hs := hg.size; (try simp at hs); rw [mCs_snoc] at ho; (try obtain ⟨gz, cz, rfl, hzb, hzl, -⟩ := OwnK.maps ho (by simp) (by omega))) | (refine wl_mapLook true ?_ (hM := findGom) (hv := by (first | exact decide_eq_true (by assumption)))) | (refine wl_mapLook false ?_ (hM := findGom) (hv := by (first | exact decide_eq_false (by assumption)))) | (refine wl_store ?_) | (refine wl_build ?_) | (refine wl_slice ?_) | (refine wl_slice2 ?_) | (refine wl_append (he := eltSp) ?_; intro v' w' ho hg hb; have hs := hg.size; (try simp at hs)) | (refine wl_append ?_; intro v' w' ho hg hb; have hs := hg.size; (try simp at hs); (try rw [ptCs_end] at ho); (try rw [ints_end] at ho); (try simp only [Nat.zero_add, Nat.reduceAdd, List.nil_append, List.cons_append] at ho)) | (go_at_call 15; (with_reducible refine (listCode_two p b k c ms _ _ x y _ hk (hms.link (LowK.lnk findLow)) (PtsK.two findRow) HV.out).mono ?_); rintro e w' ⟨rfl, hb⟩; have hl := Link.mk hb; have hs := hb.size; (try simp at hs); clear hb))
  (apply ret_two Try.results12; (conv => lhs; whnf); (conv => lhs; whnf); exact rfl)
  exact ret_ret rfl findLow
set_option maxRecDepth 20000 in
set_option maxHeartbeats 8000000 in
theorem AreInOneOrbit_impl_core (n : Nat) (b : Option Addr) (k c : Nat) (ms : List M9) (x y : Pt) (w : World) (h : MsOk n ms) (hk : k ≤ 8) (hms : ListM w b k ms) (hcode : codeML (n : Int) k (oksM (n : Int) ms && ptsB (n : Int) [x, y]) = 0) {Ls : List (List Pt)} (hLs : tabL (classP n ms) (allP n) (allP n).length (allP n).length = Ls) {v : Bool} (hv : OrbL Ls x y v) :
    Calls Try.prog 12 #[.int .i64 (n : Int), .slice b k c, pV x, pV y] w (Ret w (.tuple #[.bool v, .int .i64 0])) := by
  have HV := Lib.hid hcode
  have HO := Lib.hid (fun (w : World) (hms : ListM w b k ms) => orbits_I n _ (allP n) b k c ms w h hk hms rfl rfl (nodup_allP h.pr))
  rw [hLs] at HO
  have HD := Lib.hid hv
  have hl183 : Ls.length ≤ 183 := by rw [← hLs]; exact Nat.le_trans (tabL_len _ _ _ _) (allP_len183 h.n13.2)
  have hlen : ∀ l ∈ Ls, l.length ≤ 1000000 := fun l hl => by
    rw [← hLs] at hl
    obtain ⟨c, -, rfl⟩ := tabL_mem hl
    have := filtP_len (classP n ms) (allP n) c (allP n).length
    have := allP_len183 h.n13.2
    omega
  have HL := Lib.hid hlen
  clear hcode hv hLs hlen
  go_enter Try.func12, Try.ntmps12
  go_wp2_with (first | (refine wl_loadJ ?_) | (refine wl_load ?_) | (refine wl_loadM ?_) | (refine wl_storeJ ?_) | (refine wl_mapNewP ?_) | (refine wl_mapUpdP (L := ?_) ?_ ?_ ?_ ?_ (ho := .inl rfl); rotate_left 2; exact findGomP; assumption; assumption; intro Wm hMm hTm; have hs := hTm.out.1; (try simp at hs); (try have hOm := OwnK.turnP hTm findGomP findOwn); (try have hVm := LowK.turnP hTm (by assumption) findLow)) | (refine wl_fill1 ?_) | (refine wl_fill2 ?_) | (refine wl_storeM ?_) | (refine wl_makeM ?_; intro gm W' hgm hl hT; have hs := hl.out.size; (try simp at hs)) | (refine wl_store (h1 := mC_one _) ?_) | (refine wl_sliceM ?_) | (refine wl_append (he := eltMp) (h1 := mC_one _) ?_; intro v' w' ho hg hb; have hs := hg.size; (try simp at hs); rw [mCs_snoc] at ho; (try obtain ⟨gz, cz, rfl, hzb, hzl, -⟩ := OwnK.maps ho (by simp) (by omega))) | (refine wl_mapLook true ?_ (hM := findGom) (hv := by (first | exact decide_eq_true (by assumption)))) | (refine wl_mapLook false ?_ (hM := findGom) (hv := by (first | exact decide_eq_false (by assumption)))) | (refine wl_store ?_) | (refine wl_build ?_) | (refine wl_slice ?_) | (refine wl_slice2 ?_) | (refine wl_append (he := eltSp) ?_; intro v' w' ho hg hb; have hs := hg.size; (try simp at hs)) | (refine wl_append ?_; intro v' w' ho hg hb; have hs := hg.size; (try simp at hs); (try rw [ptCs_end] at ho); (try rw [ints_end] at ho); (try simp only [Nat.zero_add, Nat.reduceAdd, List.nil_append, List.cons_append] at ho)) | (go_at_call 15; (with_reducible refine (listCode_two n b k c ms _ _ x y _ (by omega) (hms.link (LowK.lnk findLow)) (PtsK.two findRow) HV.out).mono ?_); rintro e w' ⟨rfl, hb⟩; have hl := Link.mk hb; have hs := hb.size; (try simp at hs); clear hb) | (go_at_call 16; (with_reducible refine (HO.out _ (hms.link (LowK.lnk findLow))).mono ?_); rintro e w' ⟨v', T, rfl, hTL, hT, hO, hb⟩; have hTn := tab_pos HD.out hTL; obtain ⟨gt, ct, rfl, hC⟩ := hO.tab hTn; have hl2 := LowK.lnk hb; have hs := hb.size))
  have hx0 : RowK w' w.heap.size (pC x) 34 := findRow
  have hy0 : RowK w' (w.heap.size + 1) (pC y) 34 := findRow
  have hVw : LowK w w' := findLow
  have hTm : ∀ j, j < T.length → (T.getD j (0, 0, [])).2.2 ∈ Ls := fun j hj => by rw [← hTL]; exact List.mem_map_of_mem (getT_mem hj)
  have HTM := Lib.hid hTm
  have hT183 : T.length ≤ 183 := by have := congrArg List.length hTL; rw [List.length_map] at this; omega
  clear hl2 hs hTm hO hb
  go_loopw [26] (fun iv wr => ∃ i : Nat, i ≤ T.length ∧ iv = .int .i64 (i : Int) ∧ (∀ j, j < i → x ∉ (T.getD j (0, 0, [])).2.2) ∧ LowK w' wr) (fun iv wr => T.length - (intOf iv).toNat)
  case atStart => exact ⟨0, Nat.zero_le _, rfl, fun j hj => absurd hj (Nat.not_lt_zero _), LowK.refl _⟩
  case round =>
    obtain ⟨i, hi, rfl, hno, hV⟩ := hrel
    have hxr := hx0.link (LowK.lnk hV)
    have hyr := hy0.link (LowK.lnk hV)
    have hVr := LowK.link (LowK.lnk hV) hVw
    by_cases hlt : i < T.length
    · have c1 := (hC i hlt).link (LowK.lnk hV)
      have htk := (hT.link (LowK.lnk hV)).out.1 _ (getT_mem hlt)
      have hml := HTM.out i hlt
      obtain ⟨t, ht⟩ : ∃ t, T.getD i (0, 0, []) = t := ⟨_, rfl⟩
      rw [ht] at c1 htk hml
      have HT := Lib.hid ht
      clear ht
      obtain ⟨g, cg, l⟩ := t
      obtain ⟨hpos, hOl⟩ := htk
      obtain ⟨g2, c2, e2, -, -, hPl⟩ := OwnK.pts hOl rfl hpos
      obtain rfl : g = g2 := by injection e2 with h1; injection h1 with h1; injection h1
      clear e2 hOl
      have hll := HL.out l hml
      replace c1 : CellK wr gt i (.slice (some ⟨g, 0, none⟩) l.length cg) := c1
      replace hPl : PtsK wr g 0 l.length l := hPl
      obtain ⟨u, hu⟩ : ∃ u, decide (x ∈ l) = u := ⟨_, rfl⟩
      have HU := Lib.hid hu
      rcases u with _ | _
      · clear hu
        go_wp2_with (first | (refine wl_loadJ ?_) | (refine wl_load ?_) | (refine wl_loadM ?_) | (refine wl_storeJ ?_) | (refine wl_mapNewP ?_) | (refine wl_mapUpdP (L := ?_) ?_ ?_ ?_ ?_ (ho := .inl rfl); rotate_left 2; exact findGomP; assumption; assumption; intro Wm hMm hTm; have hs := hTm.out.1; (try simp at hs); (try have hOm := OwnK.turnP hTm findGomP findOwn); (try have hVm := LowK.turnP hTm (by assumption) findLow)) | (refine wl_fill1 ?_) | (refine wl_fill2 ?_) | (refine wl_storeM ?_) | (refine wl_makeM ?_; intro gm W' hgm hl hT; have hs := hl.out.size; (try simp at hs)) | (refine wl_store (h1 := mC_one _) ?_) | (refine wl_sliceM ?_) | (refine wl_append (he := eltMp) (h1 := mC_one _) ?_; intro v' w' ho hg hb; have hs := hg.size; (try simp at hs); rw [mCs_snoc] at ho; (try obtain ⟨gz, cz, rfl, hzb, hzl, -⟩ := OwnK.maps ho (by simp) (by omega))) | (refine wl_mapLook true ?_ (hM := findGom) (hv := by (first | exact decide_eq_true (by assumption)))) | (refine wl_mapLook false ?_ (hM := findGom) (hv := by (first | exact decide_eq_false (by assumption)))) | (refine wl_store ?_) | (refine wl_build ?_) | (refine wl_slice ?_) | (refine wl_slice2 ?_) | (refine wl_append (he := eltSp) ?_; intro v' w' ho hg hb; have hs := hg.size; (try simp at hs)) | (refine wl_append ?_; intro v' w' ho hg hb; have hs := hg.size; (try simp at hs); (try rw [ptCs_end] at ho); (try rw [ints_end] at ho); (try simp only [Nat.zero_add, Nat.reduceAdd, List.nil_append, List.cons_append] at ho)) | (go_at_call 31; (with_reducible refine (Contains_D _ hll rfl findPts HU.out).mono ?_); rintro e w' ⟨rfl, hb⟩; have hl := Link.mk hb; have hs := hb.size; (try simp at hs); clear hb))
        go_roundw
        case rel => exact ⟨i + 1, by omega, by go_num, fun j hj => by
          by_cases e : j = i
          · subst e; rw [HT.out]; exact of_decide_eq_false HU.out
          · exact hno j (by omega), findLow⟩
        case measure => (simp [intOf]; try omega)
      · have HV2 := Lib.hid (HD.out.all l hml (of_decide_eq_true hu))
        clear hu
        go_wp2_with (first | (refine wl_loadJ ?_) | (refine wl_load ?_) | (refine wl_loadM ?_) | (refine wl_storeJ ?_) | (refine wl_mapNewP ?_) | (refine wl_mapUpdP (L := ?_) ?_ ?_ ?_ ?_ (ho := .inl rfl); rotate_left 2; exact findGomP; assumption; assumption; intro Wm hMm hTm; have hs := hTm.out.1; (try simp at hs); (try have hOm := OwnK.turnP hTm findGomP findOwn); (try have hVm := LowK.turnP hTm (by assumption) findLow)) | (refine wl_fill1 ?_) | (refine wl_fill2 ?_) | (refine wl_storeM ?_) | (refine wl_makeM ?_; intro gm W' hgm hl hT; have hs := hl.out.size; (try simp at hs)) | (refine wl_store (h1 := mC_one _) ?_) | (refine wl_sliceM ?_) | (refine wl_append (he := eltMp) (h1 := mC_one _) ?_; intro v' w' ho hg hb; have hs := hg.size; (try simp at hs); rw [mCs_snoc] at ho; (try obtain ⟨gz, cz, rfl, hzb, hzl, -⟩ := OwnK.maps ho (by simp) (by omega))) | (refine wl_mapLook true ?_ (hM := findGom) (hv := by (first | exact decide_eq_true (by assumption)))) | (refine wl_mapLook false ?_ (hM := findGom) (hv := by (first | exact decide_eq_false (by assumption)))) | (refine wl_store ?_) | (refine wl_build ?_) | (refine wl_slice ?_) | (refine wl_slice2 ?_) | (refine wl_append (he := eltSp) ?_; intro v' w' ho hg hb; have hs := hg.size; (try simp at hs)) | (refine wl_append ?_; intro v' w' ho hg hb; have hs := hg.size; (try simp at hs); (try rw [ptCs_end] at ho); (try rw [ints_end] at ho); (try simp only [Nat.zero_add, Nat.reduceAdd, List.nil_append, List.cons_append] at ho)) | (go_at_call 31; (with_reducible refine (Contains_D _ hll rfl findPts (by first | exact HU.out | exact HV2.out)).mono ?_); rintro e w' ⟨rfl, hb⟩; have hl := Link.mk hb; have hs := hb.size; (try simp at hs); clear hb))
        (apply ret_two Try.results12; (conv => lhs; whnf); (conv => lhs; whnf); exact rfl)
        exact ret_ret rfl findLow
    · exfalso
      obtain ⟨l, hl, hxl⟩ := HD.out.has
      rw [← hTL] at hl
      obtain ⟨t, ht, rfl⟩ := List.mem_map.1 hl
      obtain ⟨j, hj, e⟩ := List.mem_iff_getElem.1 ht
      exact hno j (by omega) (by rw [List.getD_eq_getElem?_getD, List.getElem?_eq_getElem hj]; show x ∈ T[j].2.2; rw [e]; exact hxl)
end Go.Proofs.Ytnpmdchphaenaaa

