/- Texts of the claim, in build order: Aut, Q1, Q2, P5, P6, F4, F5, F6, Q3, Q4. No condition. -/
import Derived.Maps.AppendAt
import Derived.Test.YtdiihhohaijcoaaZDesarguesLine7
/- The searches of a walk, as defaults of arguments: a fact is found again by its name alone. -- own lists -- numbers -/
namespace Go.Proofs.Ytdiihhohaijcoaa
open Go.RowKit
set_option linter.unusedVariables false
set_option linter.unusedSimpArgs false
theorem ints_end (l : List Int) (k : Int) : ints l ++ (#[Value.int .i64 k] : Array Value).toList = ints (l ++ [k]) := by simp [ints]
theorem IntsK.lt {w : World} {b o n : Nat} {L : List Int} (h : IntsK w b o n L) (hn : 0 < n) : b < w.heap.size := World.block_lt_of_cell? w _ (h.out 0 hn)
theorem OwnK.ints {W : World} {B : Nat} {T : TypeId} {v : Value} {n : Nat} {l : List Int} (h : OwnK W B T 1 v n (ints l)) (hl : l.length = n) (hn : 0 < n) :
    ∃ g cap, v = .slice (some ⟨g, 0, none⟩) n cap ∧ B ≤ g ∧ g < W.heap.size ∧ IntsK W g 0 n l := by
  rcases h.out.2 with ⟨_, h0⟩ | ⟨g, cap, cur, rfl, hb, hg, hle, _, hsz, htk⟩
  · exfalso; omega
  · refine ⟨g, cap, rfl, hb, (Array.getElem?_eq_some_iff.1 hg).1, ⟨fun i hi => ?_⟩⟩
    rw [Nat.zero_add, cell_of_row W g i _ _ _ hg]
    have h1 : (cur.toList.take (n * 1))[i]? = (Go.Proofs.Ytdiihhohaijcoaa.ints l)[i]? := by rw [htk]
    rw [Nat.mul_one, List.getElem?_take_of_lt hi] at h1
    rw [← Array.getElem?_toList, h1]
    unfold Go.Proofs.Ytdiihhohaijcoaa.ints
    have hil : i < l.length := by omega
    simp [List.getD, hil]
theorem run_load_intT {P : Program} {o : Oper} {W : World} {ρ : Operand → Value} {ty : TypeId} {x : Operand} {b e n : Nat} {L : List Int} (hop : o.op = .load ty x) (hx : ρ x = .pointer (some ⟨b, e, none⟩)) (hL : IntsK W b 0 n L) (he : e < n)
    (ha : ∀ W, (isAgg ty).run P W = .ok false W) (t : Int) (ht : L.getD e 0 = t) : (execOp ρ o).run P W = .ok (.value (.int .i64 t)) W := by
  have h := hL.out e he
  rw [Nat.zero_add, ht] at h
  unfold execOp
  simp only [hop, hx, Instr.loadAt, Instr.sureAddr, Sem.run_bind, Sem.run_pure, Result.andThen_ok, loadVar, ha, Bool.false_eq_true, if_false]
  rw [run_load]
  simp [h]
theorem findRow {W : World} {g : Nat} {cs : Array Value} {T : TypeId} (h : RowK W g cs T := by repeat (first | with_reducible assumption | ((with_reducible apply RowK.new); (first | rfl | (focus (simp; done)) | omega | (focus (simp; omega)))) | with_reducible apply RowK.here | (apply RowK.link; (· with_reducible assumption)) | with_reducible apply RowK.alloc | with_reducible apply RowK.drewN | with_reducible apply RowK.drew | ((with_reducible apply RowK.set); (· first | assumption | omega | (simp; omega))) | (apply RowK.grew; (· with_reducible assumption); (· (first | with_reducible assumption | (apply Off.under; (· with_reducible assumption); (· omega)) | (apply Off.above; (· with_reducible assumption); (· omega))))))) : RowK W g cs T := h
theorem findPts {W : World} {b o n : Nat} {L : List Pt} (h : PtsK W b o n L := by repeat (first | with_reducible assumption | (apply PtsK.link; (· with_reducible assumption)) | with_reducible apply PtsK.alloc | with_reducible apply PtsK.drewN | with_reducible apply PtsK.drew | ((with_reducible apply PtsK.set); (· first | assumption | omega | (simp; omega))) | (apply PtsK.grew; (· with_reducible assumption); (· (first | with_reducible assumption | (apply Off.under; (· with_reducible assumption); (· omega)) | (apply Off.above; (· with_reducible assumption); (· omega))))))) : PtsK W b o n L := h
theorem findInts {W : World} {b o n : Nat} {L : List Int} (h : IntsK W b o n L := by repeat (first | with_reducible assumption | (apply IntsK.link; (· with_reducible assumption)) | with_reducible apply IntsK.alloc | with_reducible apply IntsK.drewN | with_reducible apply IntsK.drew | ((with_reducible apply IntsK.set); (· first | assumption | omega | (simp; omega))) | (apply IntsK.grew; (· with_reducible assumption); (· (first | with_reducible assumption | (apply Off.under; (· with_reducible assumption); (· omega)) | (apply Off.above; (· with_reducible assumption); (· omega))))))) : IntsK W b o n L := h
theorem findLow {w W : World} (h : LowK w W := by repeat (first | with_reducible assumption | with_reducible exact LowK.refl _ | (apply LowK.link; (· with_reducible assumption)) | with_reducible apply LowK.alloc | with_reducible apply LowK.drewN | with_reducible apply LowK.drew | ((with_reducible apply LowK.set); (· first | assumption | omega | (simp; omega))) | (apply LowK.grewB; (· with_reducible assumption); (· with_reducible assumption); (· omega)))) : LowK w W := h
theorem findOwn {W : World} {B : Nat} {T : TypeId} {sz : Nat} {v : Value} {n : Nat} {xs : List Value} (h : OwnK W B T sz v n xs := by repeat (first | with_reducible assumption | (apply OwnK.link; (· with_reducible assumption)) | with_reducible apply OwnK.alloc | with_reducible apply OwnK.drewN | with_reducible apply OwnK.drew | with_reducible apply OwnK.set | with_reducible assumption | (apply Off.under; (· with_reducible assumption); (· omega)) | (apply Off.above; (· with_reducible assumption); (· omega)) | (apply OwnK.grew; (· with_reducible assumption)) | exact Apart.out (by first | assumption | exact Apart.symm (by assumption)))) : OwnK W B T sz v n xs := h
theorem findOff {v : Value} {g : Nat} (h : Off v g := by (first | with_reducible assumption | (apply Off.under; (· with_reducible assumption); (· omega)) | (apply Off.above; (· with_reducible assumption); (· omega)))) : Off v g := h
section
variable {ρ : Operand → Value} {o : Oper} {W : World} {ty : TypeId} {x : Operand}
theorem ld_row {g : Nat} {T : TypeId} {cs : Array Value} {n : Nat} (hop : o.op = .load ty x := by exact rfl) (hx : ρ x = .pointer (some ⟨g, 0, none⟩) := by exact rfl) (hg : RowK W g cs T := by repeat (first | with_reducible assumption | ((with_reducible apply RowK.new); (first | rfl | (focus (simp; done)) | omega | (focus (simp; omega)))) | with_reducible apply RowK.here | (apply RowK.link; (· with_reducible assumption)) | with_reducible apply RowK.alloc | with_reducible apply RowK.drewN | with_reducible apply RowK.drew | ((with_reducible apply RowK.set); (· first | assumption | omega | (simp; omega))) | (apply RowK.grew; (· with_reducible assumption); (· (first | with_reducible assumption | (apply Off.under; (· with_reducible assumption); (· omega)) | (apply Off.above; (· with_reducible assumption); (· omega))))))) (hn : cs.size = n := by exact rfl)
    (hs : ∀ W, (sizeOf ty).run Try.prog W = .ok n W := by (first | exact Try.sizeOf42 | exact Try.sizeOf25)) (ha : ∀ W, (isAgg ty).run Try.prog W = .ok true W := by (first | exact Try.isAgg42 | exact Try.isAgg25)) : (execOp ρ o).run Try.prog W = .ok (.value (.agg cs)) W := run_load_rowK hop hx hg n hn hs ha
theorem ld_pt {b e n : Nat} {L : List Pt} {t : Pt} (k : Nat) (hop : o.op = .load ty x := by exact rfl) (hx : ρ x = .pointer (some ⟨b, e, none⟩) := by exact rfl) (hL : PtsK W b 0 n L := by repeat (first | with_reducible assumption | (apply PtsK.link; (· with_reducible assumption)) | with_reducible apply PtsK.alloc | with_reducible apply PtsK.drewN | with_reducible apply PtsK.drew | ((with_reducible apply PtsK.set); (· first | assumption | omega | (simp; omega))) | (apply PtsK.grew; (· with_reducible assumption); (· (first | with_reducible assumption | (apply Off.under; (· with_reducible assumption); (· omega)) | (apply Off.above; (· with_reducible assumption); (· omega))))))) (he : e = k * 3 := by exact rfl) (hk : k < n := by (first | assumption | omega | decide))
    (hs : ∀ W, (sizeOf ty).run Try.prog W = .ok 3 W := by (first | exact Try.sizeOf42 | exact Try.sizeOf25)) (ha : ∀ W, (isAgg ty).run Try.prog W = .ok true W := by (first | exact Try.isAgg42 | exact Try.isAgg25)) (ht : L.getD k (0, 0, 0) = t := by (first | with_reducible assumption | (simp only [List.getD_cons_zero, List.getD_cons_succ]; exact rfl) | exact rfl)) : (execOp ρ o).run Try.prog W = .ok (.value (pV t)) W := run_load_ptT k hop hx hL he hk hs ha t ht
theorem ld_int {b e n : Nat} {L : List Int} {t : Int} (hop : o.op = .load ty x := by exact rfl) (hx : ρ x = .pointer (some ⟨b, e, none⟩) := by exact rfl) (hL : IntsK W b 0 n L := by repeat (first | with_reducible assumption | (apply IntsK.link; (· with_reducible assumption)) | with_reducible apply IntsK.alloc | with_reducible apply IntsK.drewN | with_reducible apply IntsK.drew | ((with_reducible apply IntsK.set); (· first | assumption | omega | (simp; omega))) | (apply IntsK.grew; (· with_reducible assumption); (· (first | with_reducible assumption | (apply Off.under; (· with_reducible assumption); (· omega)) | (apply Off.above; (· with_reducible assumption); (· omega))))))) (he : e < n := by (first | assumption | omega | decide))
    (ha : ∀ W, (isAgg ty).run Try.prog W = .ok false W := by (first | exact Try.isAgg2 | exact Try.isAgg3 | exact Try.isAgg4)) (ht : L.getD e 0 = t := by (first | with_reducible assumption | (simp only [List.getD_cons_zero, List.getD_cons_succ]; exact rfl) | exact rfl)) : (execOp ρ o).run Try.prog W = .ok (.value (.int .i64 t)) W := run_load_intT hop hx hL he ha t ht
end
section
variable {ops : Array Oper} {rest : List Oper} {o : Oper} {a : Act} {w : World} {Q : Exit → Act → World → Prop}
theorem wl_load {ty : TypeId} {x : Operand} {v : Value} (hK : wpList Try.prog ops Q rest (a.put o.dst v) w) (hgd : o.guard = none := by exact rfl) (hop : o.op = .load ty x := by exact rfl)
    (hr : (execOp a.eval o).run Try.prog w = .ok (.value v) w := by first | exact ld_row | exact ld_pt _ | exact ld_pt 0 | exact ld_pt 1 | exact ld_pt 2 | exact ld_pt 3 | exact ld_int) : wpList Try.prog ops Q (o :: rest) a w := wpList_load_any w hgd ty x hop hr hK
theorem wl_store {ty : TypeId} {x y : Operand} {g n : Nat} {T : TypeId} {cs U : Array Value} (hK : wpList Try.prog ops Q rest a (w.setRow g U)) (hgd : o.guard = none := by exact rfl) (hop : o.op = .store ty x y := by exact rfl) (hd : o.dst = none := by exact rfl)
    (hx : a.eval x = .pointer (some ⟨g, 0, none⟩) := by exact rfl) (hy : a.eval y = .agg U := by exact rfl) (hg : RowK w g cs T := by repeat (first | with_reducible assumption | ((with_reducible apply RowK.new); (first | rfl | (focus (simp; done)) | omega | (focus (simp; omega)))) | with_reducible apply RowK.here | (apply RowK.link; (· with_reducible assumption)) | with_reducible apply RowK.alloc | with_reducible apply RowK.drewN | with_reducible apply RowK.drew | ((with_reducible apply RowK.set); (· first | assumption | omega | (simp; omega))) | (apply RowK.grew; (· with_reducible assumption); (· (first | with_reducible assumption | (apply Off.under; (· with_reducible assumption); (· omega)) | (apply Off.above; (· with_reducible assumption); (· omega))))))) (hn : cs.size = n := by exact rfl) (hU : U.size = n := by exact rfl)
    (hs : ∀ W, (sizeOf ty).run Try.prog W = .ok n W := by (first | exact Try.sizeOf42 | exact Try.sizeOf25)) (h1 : ∀ v ∈ U.toList, v.oneCell' = true := by (first | exact pC_one _ | (focus (simp [Value.oneCell']; done)))) : wpList Try.prog ops Q (o :: rest) a w := wpList_store_rowK w hgd ty x y hop hd hx hy hg n hn hU hs h1 hK
theorem wl_build {t : TypeId} {parts : Array (Nat × Operand)} (hK : wpList Try.prog ops Q rest (a.put o.dst (.agg (pC (0, 0, 0)))) w) (hgd : o.guard = none := by exact rfl) (hop : o.op = .build t parts := by exact rfl)
    (hb : Program.built Try.prog t (parts.map fun (i, x) => (i, a.eval x)).toList = some (pC (0, 0, 0)) := by kernel_rfl) : wpList Try.prog ops Q (o :: rest) a w := wpList_build w hgd t parts hop _ hb hK
theorem wl_slice {t e : TypeId} {x : Operand} {p : Pt} (h : wpList Try.prog ops Q rest (a.put o.dst (.slice (some ⟨w.heap.size, 0, none⟩) 1 1)) (w.alloc (.cells (pC p) e))) (hgd : o.guard = none := by exact rfl) (ho : o.op = .buildSlice t 1 #[(0, x)] := by exact rfl)
    (he : EltK Try.prog t e 3 := by (first | exact eltPo | exact eltLn | exact eltI64 | exact eltInt)) (hx : a.eval x = pV p := by exact rfl) : wpList Try.prog ops Q (o :: rest) a w := wpList_slice_pt w hgd t e x ho he hx h
theorem wl_append {s x : Operand} {t e : TypeId} {sz g m c B n : Nat} {v : Value} {xs : List Value} {news : Array Value} {T : TypeId}
    (h : ∀ v' w', OwnK w' B e sz v' (n + m) (xs ++ news.toList) → Grew w v w' → (v'.ownBlock = v.ownBlock ∨ v'.ownBlock = some w.heap.size) → wpList Try.prog ops Q rest (a.put o.dst v') w')
    (hgd : o.guard = none := by exact rfl) (ho : o.op = .call { callee := .builtin .append, args := #[s, x], argTypes := #[t, t] } := by exact rfl) (he : EltK Try.prog t e sz := by (first | exact eltPo | exact eltLn | exact eltI64 | exact eltInt))
    (hs : a.eval s = v := by conv => lhs; whnf) (hx : a.eval x = .slice (some ⟨g, 0, none⟩) m c := by exact rfl) (hown : OwnK w B e sz v n xs := by repeat (first | with_reducible assumption | (apply OwnK.link; (· with_reducible assumption)) | with_reducible apply OwnK.alloc | with_reducible apply OwnK.drewN | with_reducible apply OwnK.drew | with_reducible apply OwnK.set | with_reducible assumption | (apply Off.under; (· with_reducible assumption); (· omega)) | (apply Off.above; (· with_reducible assumption); (· omega)) | (apply OwnK.grew; (· with_reducible assumption)) | exact Apart.out (by first | assumption | exact Apart.symm (by assumption)))) (hnew : RowK w g news T := by repeat (first | with_reducible assumption | ((with_reducible apply RowK.new); (first | rfl | (focus (simp; done)) | omega | (focus (simp; omega)))) | with_reducible apply RowK.here | (apply RowK.link; (· with_reducible assumption)) | with_reducible apply RowK.alloc | with_reducible apply RowK.drewN | with_reducible apply RowK.drew | ((with_reducible apply RowK.set); (· first | assumption | omega | (simp; omega))) | (apply RowK.grew; (· with_reducible assumption); (· (first | with_reducible assumption | (apply Off.under; (· with_reducible assumption); (· omega)) | (apply Off.above; (· with_reducible assumption); (· omega))))))) (hl : news.size = m * sz := by exact rfl) (h1 : ∀ u ∈ news.toList, u.oneCell' = true := by (first | exact pC_one _ | (focus (simp [Value.oneCell']; done))))
    (h63 : n + m ≤ 1000000 := by first | omega | (simp; omega)) (hbase : B ≤ w.heap.size := by first | omega | (simp; omega)) : wpList Try.prog ops Q (o :: rest) a w := wpList_append_K w hgd s x t e sz ho he hs hx hown hnew hl h1 h63 hbase h
theorem q_load {w : World} {G : Grow0 w} {K : Act → Prop} {ty : TypeId} {x : Operand} {v : Value} (hK : K (a.put o.dst v)) (hop : o.op = .load ty x := by exact rfl)
    (h : ∀ W, Link w W → (execOp a.eval o).run Try.prog W = .ok (.value v) W := by (intro W hl; first | exact ld_row | exact ld_pt _ | exact ld_pt 0 | exact ld_pt 1 | exact ld_pt 2 | exact ld_pt 3 | exact ld_int)) : o.quiet Try.prog a (fun w' => ∃ g : Grow w G, w' = g.W) K := q_load_any ty x hop h hK
end
section
variable {P : Program} {Q : Exit → Act → World → Prop} {l : List Oper} {a0 : Act} {w : World}
theorem region_QA {id : Nat} (m : Nat) (H : ∃ aE, (∀ G : Grow0 w, wpQuiet P l.toArray (fun w' => ∃ g : Grow w G, w' = g.W) (fun a' => a' = aE) (l.take m) a0) ∧ ∀ W, Link w W → wpList P l.toArray Q (l.drop m) aE W)
    (hm : P.follows .mixedOrders = true := by kernel_rfl) (hml : m ≤ l.length := by decide) (chk : viaChk l m a0.tmps.size = true := by kernel_rfl) (hgd : guardsIn l m = true := by kernel_rfl) (hon : onceB l m = true := by kernel_rfl) :
    (Code.region id l.toArray true).wp P Q a0 w := region_Q m hm hml chk hgd hon H
theorem region_QNA {id : Nat} (m : Nat) (ns : List CellS) {ms : List Bool} {rl : List Oper} (hpk : Pick l ms rl)
    (hal : AllNs (fun s : CellS => ∀ o, l[s.i]? = some o → ∀ (ρ : Operand → Value) (W : World), (execOp ρ o).run P W = .ok (.value (.pointer (some ⟨W.heap.size, 0, none⟩))) (W.alloc (.cells s.Z s.T))) ns)
    (H : ∃ aE, (∀ G : Grow0 w, wpQuiet P l.toArray (fun w' => ∃ g : Grow w G, w' = g.W) (fun a' => a' = aE) rl a0) ∧
      ∀ (g : Nat → Nat) (W : World), Link w W → AllNs (fun s : CellS => w.heap.size ≤ g s.t ∧ RowK W (g s.t) s.Z s.T) ns → AllNs (fun s : CellS => AllNs (fun s' : CellS => s.t ≠ s'.t → g s.t ≠ g s'.t) ns) ns → wpList P l.toArray Q (l.drop m) (puts aE (ns.map fun s => (s.t, .pointer (some ⟨g s.t, 0, none⟩)))) W)
    (hm : P.follows .mixedOrders = true := by kernel_rfl) (hml : m ≤ l.length := by decide) (hrl : (l.take m).filter (fun o => !isNew (ns.map (·.n)) o) = rl := by kernel_rfl)
    (chk : viaChk l m a0.tmps.size = true := by kernel_rfl) (hnew : newB l m (ns.map (·.n)) = true := by kernel_rfl) (hcell : cellB l m ns = true := by kernel_rfl) : (Code.region id l.toArray true).wp P Q a0 w := region_QN m ns hpk hm hml hrl chk hnew hcell hal H
theorem region_CHA {id : Nat} (m : Nat) (ch : List Nat) (KP : World → Prop) {ms mc : List Bool} {rl cl : List Oper} (hpk : Pick l ms rl) (hpc : Pick l mc cl)
    (hk : ∀ W W', KP W → Link W W' → KP W') (h0 : KP w)
    (H : ∃ aE, (∀ W0, KP W0 → ∀ G : Grow0 W0, wpQuiet P l.toArray (fun w' => ∃ g : Grow W0 G, w' = g.W) (fun a' => a' = aE) rl a0) ∧ wpCh P l.toArray KP (fun a' W' => wpList P l.toArray Q (l.drop m) a' W') cl aE w)
    (hm : P.follows .mixedOrders = true := by kernel_rfl) (hml : m ≤ l.length := by decide)
    (hrl : (((List.range m).filter fun i => !ch.contains i).filterMap fun i => l[i]?) = rl := by kernel_rfl) (hcl : (ch.filterMap fun i => l[i]?) = cl := by kernel_rfl)
    (chk : viaChkC l m a0.tmps.size ch = true := by kernel_rfl) (hgd : guardsIn l m = true := by kernel_rfl) (hon : onceC l m = true := by kernel_rfl) (hch : chChk l m ch = true := by kernel_rfl) (hcb : chanB l m ch = true := by kernel_rfl) :
    (Code.region id l.toArray true).wp P Q a0 w := region_CH m ch KP hpk hpc hm hml hrl hcl chk hgd hon hch hcb hk h0 H
end
end Go.Proofs.Ytdiihhohaijcoaa
/- Plain words: Desargues' theorem modulo a prime. -/
namespace Go.Proofs.Ytdiihhohaijcoaa
set_option linter.unusedVariables false
set_option linter.unusedSimpArgs false
theorem cg_dot2 {p k k' : Int} {v w v' w' : Pt} (h : cg p k v w) (h' : cg p k' v' w') : p ∣ dotI v v' - k * k' * dotI w w' := by
  obtain ⟨a, ha⟩ := dvd_pair h.1 h'.1
  obtain ⟨b, hb⟩ := dvd_pair h.2.1 h'.2.1
  obtain ⟨c, hc⟩ := dvd_pair h.2.2 h'.2.2
  exact ⟨a + b + c, by unfold dotI; grind⟩
theorem nz_cg {p k : Int} {v w : Pt} (h : cg p k v w) (hv : nzV p v) : nzV p w := by
  intro hw
  exact hv ⟨(Int.dvd_iff_dvd_of_dvd_sub h.1).2 (Int.dvd_mul_of_dvd_right hw.1), (Int.dvd_iff_dvd_of_dvd_sub h.2.1).2 (Int.dvd_mul_of_dvd_right hw.2.1), (Int.dvd_iff_dvd_of_dvd_sub h.2.2).2 (Int.dvd_mul_of_dvd_right hw.2.2)⟩
theorem nz_cg' {p k : Int} {v w : Pt} (hp : prB p = true) (h : cg p k v w) (hk : ¬ p ∣ k) (hw : nzV p w) : nzV p v := by
  intro hv
  exact hw ⟨mul_dvd hp ((Int.dvd_iff_dvd_of_dvd_sub h.1).1 hv.1) hk, mul_dvd hp ((Int.dvd_iff_dvd_of_dvd_sub h.2.1).1 hv.2.1) hk, mul_dvd hp ((Int.dvd_iff_dvd_of_dvd_sub h.2.2).1 hv.2.2) hk⟩
theorem detZ_dot (a b c : Pt) : detZ a b c = dotI a (crs b c) := rfl
theorem crs_crs2 (u c d : Pt) : crs u (crs c d) = comb (dotI d u) c (dotI c u) d := by
  unfold comb crs dotI
  simp only [Prod.mk.injEq]
  refine ⟨?_, ?_, ?_⟩ <;> grind
theorem des_1 (L s0 s1 s2 : Pt) : dotI (crs s1 s2) (crs L (crs s0 s1)) = detZ s0 s1 s2 * dotI L s1 := by
  unfold detZ crs dotI; simp only; grind
theorem des_2 (M f0 f1 f2 : Pt) : dotI (crs f1 f2) (crs (crs f0 f1) M) = - detZ f0 f1 f2 * dotI M f1 := by
  unfold detZ crs dotI; simp only; grind
theorem des_3 (M f0 f1 f2 : Pt) : dotI (crs f1 f2) (crs (crs f2 f0) M) = detZ f0 f1 f2 * dotI M f2 := by
  unfold detZ crs dotI; simp only; grind
theorem des_4 (L s0 s1 s2 : Pt) : dotI (crs s1 s2) (crs L (crs s2 s0)) = - detZ s0 s1 s2 * dotI L s2 := by
  unfold detZ crs dotI; simp only; grind
theorem des_5 (f0 f1 f2 s0 s1 s2 : Pt) : dotI (crs f0 f1) s1 * dotI (crs s2 s0) f2 - dotI (crs s0 s1) f1 * dotI (crs f2 f0) s2 = detZ (crs f0 s0) (crs f1 s1) (crs f2 s2) := by
  unfold detZ crs dotI; simp only; grind
/-- The cross product of the first two meets. -/
theorem des_x (f0 f1 f2 s0 s1 s2 : Pt) : crs (crs (crs f0 f1) (crs s0 s1)) (crs (crs f1 f2) (crs s1 s2)) = comb (detZ s0 s1 s2 * dotI (crs f0 f1) s1) (crs f1 f2) (- detZ f0 f1 f2 * dotI (crs s0 s1) f1) (crs s1 s2) := by
  rw [crs_crs2, des_1, des_2]
theorem dot_comb2 (w e a : Pt) (s t : Int) : dotI w (comb s e t a) = s * dotI w e - t * dotI w a := by
  unfold comb dotI; simp only; grind
theorem dotI_comm (a b : Pt) : dotI a b = dotI b a := by unfold dotI; grind
theorem des_col (f0 f1 f2 s0 s1 s2 : Pt) : dotI (crs (crs f2 f0) (crs s2 s0)) (crs (crs (crs f0 f1) (crs s0 s1)) (crs (crs f1 f2) (crs s1 s2))) = detZ f0 f1 f2 * detZ s0 s1 s2 * detZ (crs f0 s0) (crs f1 s1) (crs f2 s2) := by
  rw [des_x, dot_comb2, dotI_comm _ (crs f1 f2), dotI_comm _ (crs s1 s2), des_3, des_4, ← des_5]
  generalize dotI (crs f0 f1) s1 = x
  generalize dotI (crs s2 s0) f2 = y
  generalize dotI (crs s0 s1) f1 = z
  generalize dotI (crs f2 f0) s2 = t
  generalize detZ f0 f1 f2 = d
  generalize detZ s0 s1 s2 = e
  grind
theorem crs_comb (e a : Pt) (s t : Int) : crs (comb s e t a) a = comb s (crs e a) 0 a := by
  unfold comb crs; simp only [Prod.mk.injEq]; refine ⟨?_, ?_, ?_⟩ <;> grind
theorem crs_comb' (e a : Pt) (s t : Int) : crs (comb s e t a) e = comb t (crs e a) 0 a := by
  unfold comb crs; simp only [Prod.mk.injEq]; refine ⟨?_, ?_, ?_⟩ <;> grind
theorem dvd_crs {p : Int} {v w : Pt} (h : p ∣ v.1 ∧ p ∣ v.2.1 ∧ p ∣ v.2.2) : p ∣ (crs v w).1 ∧ p ∣ (crs v w).2.1 ∧ p ∣ (crs v w).2.2 := by
  obtain ⟨⟨a, ha⟩, ⟨b, hb⟩, ⟨c, hc⟩⟩ := h
  unfold crs
  simp only
  rw [ha, hb, hc]
  exact ⟨⟨b * w.2.2 - c * w.2.1, by grind⟩, ⟨c * w.1 - a * w.2.2, by grind⟩, ⟨a * w.2.1 - b * w.1, by grind⟩⟩
theorem dvd_comb0 {p s : Int} {v a : Pt} (hp : prB p = true) (hv : nzV p v) (h : p ∣ (comb s v 0 a).1 ∧ p ∣ (comb s v 0 a).2.1 ∧ p ∣ (comb s v 0 a).2.2) : p ∣ s := by
  unfold comb at h
  simp only [Int.zero_mul, Int.sub_zero] at h
  cases hd : decide (p ∣ s) with
  | true => exact of_decide_eq_true hd
  | false =>
    have hn := of_decide_eq_false hd
    exact (hv ⟨mul_dvd hp h.1 hn, mul_dvd hp h.2.1 hn, mul_dvd hp h.2.2 hn⟩).elim
/-- Two vectors that both are parallel to one that is not 0 are parallel. -/
theorem par3 {p : Int} (hp : prB p = true) {u v j : Pt} (hj : nzV p j) (h1 : p ∣ (crs u j).1 ∧ p ∣ (crs u j).2.1 ∧ p ∣ (crs u j).2.2) (h2 : p ∣ (crs v j).1 ∧ p ∣ (crs v j).2.1 ∧ p ∣ (crs v j).2.2) :
    p ∣ (crs u v).1 ∧ p ∣ (crs u v).2.1 ∧ p ∣ (crs u v).2.2 := by
  obtain ⟨u1, u2, u3⟩ := u
  obtain ⟨v1, v2, v3⟩ := v
  obtain ⟨j1, j2, j3⟩ := j
  obtain ⟨⟨a1, e1⟩, ⟨a2, e2⟩, ⟨a3, e3⟩⟩ := h1
  obtain ⟨⟨b1, f1⟩, ⟨b2, f2⟩, ⟨b3, f3⟩⟩ := h2
  simp only [crs] at *
  have hd : ¬ p ∣ j1 ∨ ¬ p ∣ j2 ∨ ¬ p ∣ j3 := by
    by_cases k1 : p ∣ j1
    · by_cases k2 : p ∣ j2
      · exact .inr (.inr (fun k3 => hj ⟨k1, k2, k3⟩))
      · exact .inr (.inl k2)
    · exact .inl k1
  rcases hd with hd | hd | hd
  · refine ⟨mul_dvd hp ⟨u1 * b1 + u2 * b2 + u3 * b3 - b1 * u1 + a1 * v1, ?_⟩ hd, mul_dvd hp ⟨a2 * v1 - b2 * u1, ?_⟩ hd, mul_dvd hp ⟨a3 * v1 - b3 * u1, ?_⟩ hd⟩ <;> grind
  · refine ⟨mul_dvd hp ⟨a1 * v2 - b1 * u2, ?_⟩ hd, mul_dvd hp ⟨u1 * b1 + u2 * b2 + u3 * b3 - b2 * u2 + a2 * v2, ?_⟩ hd, mul_dvd hp ⟨a3 * v2 - b3 * u2, ?_⟩ hd⟩ <;> grind
  · refine ⟨mul_dvd hp ⟨a1 * v3 - b1 * u3, ?_⟩ hd, mul_dvd hp ⟨a2 * v3 - b2 * u3, ?_⟩ hd, mul_dvd hp ⟨u1 * b1 + u2 * b2 + u3 * b3 - b3 * u3 + a3 * v3, ?_⟩ hd⟩ <;> grind
/-- The first two meets of two triangles are different. -/
theorem des_ne {p : Int} (hp : prB p = true) {f0 f1 f2 s0 s1 s2 : Pt} (hf : ¬ p ∣ detZ f0 f1 f2) (hs : ¬ p ∣ detZ s0 s1 s2) (h1 : nzV p (crs f1 s1))
    (h2 : nzV p (crs (crs f0 f1) (crs s0 s1))) (h3 : nzV p (crs (crs f1 f2) (crs s1 s2))) : nzV p (crs (crs (crs f0 f1) (crs s0 s1)) (crs (crs f1 f2) (crs s1 s2))) := by
  intro h
  rw [des_x] at h
  have e1 := dvd_crs (w := crs s1 s2) h
  rw [crs_comb] at e1
  have a1 := mul_dvd hp (dvd_comb0 hp h3 e1) hs
  have e2 := dvd_crs (w := crs f1 f2) h
  rw [crs_comb'] at e2
  have a2 := mul_dvd hp (dvd_comb0 hp h3 e2) (by rintro ⟨q, hq⟩; exact hf ⟨-q, by grind⟩)
  obtain ⟨x, hx⟩ := a1
  obtain ⟨y, hy⟩ := a2
  refine h2 (par3 hp h1 ?_ ?_)
  · rw [crs_crs2, dotI_comm s1, hx, show dotI f1 (crs f0 f1) = 0 by unfold dotI crs; simp only; grind]
    exact ⟨⟨x * f1.1, by unfold comb; grind⟩, ⟨x * f1.2.1, by unfold comb; grind⟩, ⟨x * f1.2.2, by unfold comb; grind⟩⟩
  · rw [crs_crs2, show dotI s1 (crs s0 s1) = 0 by unfold dotI crs; simp only; grind, dotI_comm f1, hy]
    exact ⟨⟨-y * s1.1, by unfold comb; grind⟩, ⟨-y * s1.2.1, by unfold comb; grind⟩, ⟨-y * s1.2.2, by unfold comb; grind⟩⟩
/-- The same for the points and lines made normal; and the third meet is on the line. -/
theorem des_all {p : Int} (hp : prB p = true) {f0 f1 f2 s0 s1 s2 : Pt} (hf : ¬ p ∣ detZ f0 f1 f2) (hs : ¬ p ∣ detZ s0 s1 s2) (h0 : nzV p (crs f0 s0)) (h1 : nzV p (crs f1 s1)) (h2 : nzV p (crs f2 s2))
    (n0 : nzV p (crs (crsN p f0 f1) (crsN p s0 s1))) (n1 : nzV p (crs (crsN p f1 f2) (crsN p s1 s2))) (n2 : nzV p (crs (crsN p f2 f0) (crsN p s2 s0))) (hj : p ∣ detZ (crsN p f0 s0) (crsN p f1 s1) (crsN p f2 s2)) :
    nzV p (crs (crsN p (crsN p f0 f1) (crsN p s0 s1)) (crsN p (crsN p f1 f2) (crsN p s1 s2))) ∧
    onB p (crsN p (crsN p f2 f0) (crsN p s2 s0)) (crsN p (crsN p (crsN p f0 f1) (crsN p s0 s1)) (crsN p (crsN p f1 f2) (crsN p s1 s2))) = true := by
  obtain ⟨γ0, u0, j0⟩ := cg_crsN hp h0
  obtain ⟨γ1, u1, j1⟩ := cg_crsN hp h1
  obtain ⟨γ2, u2, j2⟩ := cg_crsN hp h2
  have hj' : p ∣ detZ (crs f0 s0) (crs f1 s1) (crs f2 s2) := by
    have hq := cg_dot2 j0 (cg_crs j1 j2)
    rw [← detZ_dot, ← detZ_dot] at hq
    exact mul_dvd hp ((Int.dvd_iff_dvd_of_dvd_sub hq).1 hj) (mul_nd hp u0 (mul_nd hp u1 u2))
  have c0 := cg_crs (cg_nrm hp (crs f0 f1)) (cg_nrm hp (crs s0 s1))
  have c1 := cg_crs (cg_nrm hp (crs f1 f2)) (cg_nrm hp (crs s1 s2))
  have c2 := cg_crs (cg_nrm hp (crs f2 f0)) (cg_nrm hp (crs s2 s0))
  have hx0 := nz_cg c0 n0
  have hx1 := nz_cg c1 n1
  obtain ⟨φ0, v0, g0⟩ := cg_crsN hp n0
  obtain ⟨φ1, v1, g1⟩ := cg_crsN hp n1
  obtain ⟨φ2, v2, g2⟩ := cg_crsN hp n2
  have hne := des_ne hp hf hs h1 hx0 hx1
  have nd : ∀ {k : Int} {v w : Pt}, cg p k v w → nzV p v → ¬ p ∣ k := by
    rintro k v w ⟨⟨a, ha⟩, ⟨b, hb⟩, ⟨c, hc⟩⟩ hv ⟨q, hq⟩
    rw [hq] at ha hb hc
    exact hv ⟨⟨a + q * w.1, by grind⟩, ⟨b + q * w.2.1, by grind⟩, ⟨c + q * w.2.2, by grind⟩⟩
  have d0 := cg_trans g0 c0
  have d1 := cg_trans g1 c1
  have d2 := cg_trans g2 c2
  have R := cg_crs d0 d1
  refine ⟨nz_cg' hp R (mul_nd hp (mul_nd hp v0 (nd c0 n0)) (mul_nd hp v1 (nd c1 n1))) hne, ?_⟩
  have S := cg_dot2 d2 (cg_trans (cg_nrm hp _) R)
  rw [des_col] at S
  have hd : p ∣ dotI (crsN p (crsN p f2 f0) (crsN p s2 s0)) (crsN p (crsN p (crsN p f0 f1) (crsN p s0 s1)) (crsN p (crsN p f1 f2) (crsN p s1 s2))) := (Int.dvd_iff_dvd_of_dvd_sub S).2 (Int.dvd_mul_of_dvd_right (Int.dvd_mul_of_dvd_right hj'))
  unfold onB
  rw [beq_iff_eq]
  exact Int.emod_eq_zero_of_dvd hd
end Go.Proofs.Ytdiihhohaijcoaa
/- Plain words: what DesarguesLine returns, and what both makings lean on. -/
namespace Go.Proofs.Ytdiihhohaijcoaa
set_option linter.unusedVariables false
set_option linter.unusedSimpArgs false
def conP (a b c x : Pt) : Bool := eqP x a || (eqP x b || eqP x c)
/-- The i-th sides' lines are one. -/
def desE (p : Int) (a b c d : Pt) : Bool := eqP (crsN p a b) (crsN p c d)
def desM (p : Int) (a b c d : Pt) : Pt := crsN p (crsN p a b) (crsN p c d)
def desD (p : Int) (a b c d e f : Pt) : Int := detZ (crsN p a d) (crsN p b e) (crsN p c f) % p
def desC (p : Int) (a b c d e f : Pt) : Pt × Int :=
  if (detZ a b c % p == 0 || detZ d e f % p == 0) = true then ((0, 0, 0), 5) else
  if (conP d e f a || (conP d e f b || conP d e f c)) = true then ((0, 0, 0), 5) else
  if (desE p a b d e || (desE p b c e f || desE p c a f d)) = true then ((0, 0, 0), 5) else
  if desD p a b c d e f ≠ 0 then ((0, 0, 0), 5) else (crsN p (desM p a b d e) (desM p b c e f), 0)
def desR (p : Int) (n1 n2 : Nat) (l1 l2 : List Pt) : Pt × Int :=
  if threesR p n1 n2 l1 l2 ≠ 0 then ((0, 0, 0), threesR p n1 n2 l1 l2) else
  desC p (l1.getD 0 (0, 0, 0)) (l1.getD 1 (0, 0, 0)) (l1.getD 2 (0, 0, 0)) (l2.getD 0 (0, 0, 0)) (l2.getD 1 (0, 0, 0)) (l2.getD 2 (0, 0, 0))
theorem desC_f1 {p : Int} {a b c : Pt} (d e f : Pt) (h : (detZ a b c % p == 0) = true) : desC p a b c d e f = ((0, 0, 0), 5) := by unfold desC; rw [h]; rfl
theorem desC_f2 {p : Int} {d e f : Pt} (a b c : Pt) (h : (detZ d e f % p == 0) = true) : desC p a b c d e f = ((0, 0, 0), 5) := by unfold desC; rw [h]; simp
theorem desC_con {p : Int} {a b c d e f : Pt} (h : (conP d e f a || (conP d e f b || conP d e f c)) = true) : desC p a b c d e f = ((0, 0, 0), 5) := by
  unfold desC; split
  · rfl
  · first | rfl | rw [if_pos h]
theorem desC_eq {p : Int} {a b c d e f : Pt} (h : (desE p a b d e || (desE p b c e f || desE p c a f d)) = true) : desC p a b c d e f = ((0, 0, 0), 5) := by
  unfold desC; split
  · rfl
  · split
    · rfl
    · first | rfl | rw [if_pos h]
theorem desC_det {p : Int} {a b c d e f : Pt} (h : desD p a b c d e f ≠ 0) : desC p a b c d e f = ((0, 0, 0), 5) := by
  unfold desC; split
  · rfl
  · split
    · rfl
    · split
      · rfl
      · first | rfl | rw [if_pos h]
theorem desC_good {p : Int} {a b c d e f : Pt} (h1 : (detZ a b c % p == 0) = false) (h2 : (detZ d e f % p == 0) = false) (h3 : (conP d e f a || (conP d e f b || conP d e f c)) = false) (h4 : (desE p a b d e || (desE p b c e f || desE p c a f d)) = false) (h5 : desD p a b c d e f = 0) :
    desC p a b c d e f = (crsN p (desM p a b d e) (desM p b c e f), 0) := by
  unfold desC
  rw [h1, h2, h3, h4]; simp [h5]
theorem eqP_comm (a b : Pt) : eqP a b = eqP b a := by
  unfold eqP
  rw [show (a.1 == b.1) = (b.1 == a.1) from BEq.comm, show (a.2.1 == b.2.1) = (b.2.1 == a.2.1) from BEq.comm, show (a.2.2 == b.2.2) = (b.2.2 == a.2.2) from BEq.comm]
theorem det_same (a b : Pt) : detZ a a b = 0 ∧ detZ a b a = 0 ∧ detZ b a a = 0 := by
  refine ⟨?_, ?_, ?_⟩ <;> (unfold detZ; grind)
theorem det_ne {p : Int} {a b c : Pt} (h : (detZ a b c % p == 0) = false) : eqP a b = false ∧ eqP b c = false ∧ eqP c a = false := by
  have h0 : detZ a b c % p ≠ 0 := by simpa using h
  refine ⟨?_, ?_, ?_⟩
  · cases hb : eqP a b with
    | false => rfl
    | true => rw [eqP_iff.1 hb, (det_same b c).1] at h0; simp at h0
  · cases hb : eqP b c with
    | false => rfl
    | true => rw [eqP_iff.1 hb, (det_same c a).2.2] at h0; simp at h0
  · cases hb : eqP c a with
    | false => rfl
    | true => rw [eqP_iff.1 hb, (det_same a b).2.1] at h0; simp at h0
/-- The lines of two sides meet in one point, unless they are one. -/
theorem ok_sides {n : Nat} {a b d e : Pt} (ha : ptB (n : Int) a.1 a.2.1 a.2.2 = true) (hb : ptB (n : Int) b.1 b.2.1 b.2.2 = true) (hd : ptB (n : Int) d.1 d.2.1 d.2.2 = true) (he : ptB (n : Int) e.1 e.2.1 e.2.2 = true) (h1 : eqP a b = false) (h2 : eqP d e = false) :
    okC n (crsN n a b) (crsN n d e) = !desE n a b d e := by
  unfold desE
  cases hq : eqP (crsN n a b) (crsN n d e) with
  | false => exact okC_of (nzV_of (crsN_pt ha hb h1) (crsN_pt hd he h2) hq)
  | true =>
    rw [eqP_iff.1 hq]
    unfold okC madeC made
    have : nzB (n : Int) [(crs (crsN n d e) (crsN n d e)).1, (crs (crsN n d e) (crsN n d e)).2.1, (crs (crsN n d e) (crsN n d e)).2.2] = false := by
      have e1 : ∀ v : Pt, (crs v v).1 = 0 ∧ (crs v v).2.1 = 0 ∧ (crs v v).2.2 = 0 := fun v => by unfold crs; refine ⟨?_, ?_, ?_⟩ <;> (simp only; grind)
      obtain ⟨x, y, z⟩ := e1 (crsN n d e)
      rw [x, y, z]
      unfold nzB
      simp
      first | rfl | (unfold zerosB; simp)
    rw [this]; rfl
theorem nz_sides {n : Nat} {a b d e : Pt} (ha : ptB (n : Int) a.1 a.2.1 a.2.2 = true) (hb : ptB (n : Int) b.1 b.2.1 b.2.2 = true) (hd : ptB (n : Int) d.1 d.2.1 d.2.2 = true) (he : ptB (n : Int) e.1 e.2.1 e.2.2 = true) (h1 : eqP a b = false) (h2 : eqP d e = false) (h : desE n a b d e = false) : nzV (n : Int) (crs (crsN n a b) (crsN n d e)) :=
  nzV_of (crsN_pt ha hb h1) (crsN_pt hd he h2) h
/-- The first two meets have a line, and the third is on it. -/
theorem des_thr {n : Nat} {a b c d e f : Pt} (ha : ptB (n : Int) a.1 a.2.1 a.2.2 = true) (hb : ptB (n : Int) b.1 b.2.1 b.2.2 = true) (hc : ptB (n : Int) c.1 c.2.1 c.2.2 = true) (hd : ptB (n : Int) d.1 d.2.1 d.2.2 = true) (he : ptB (n : Int) e.1 e.2.1 e.2.2 = true) (hf : ptB (n : Int) f.1 f.2.1 f.2.2 = true)
    (h1 : (detZ a b c % (n : Int) == 0) = false) (h2 : (detZ d e f % (n : Int) == 0) = false) (h3 : (conP d e f a || (conP d e f b || conP d e f c)) = false) (h4 : (desE n a b d e || (desE n b c e f || desE n c a f d)) = false) (h5 : desD n a b c d e f = 0) :
    okC n (desM n a b d e) (desM n b c e f) = true ∧ onB n (desM n c a f d) (crsN n (desM n a b d e) (desM n b c e f)) = true := by
  obtain ⟨q1, q2, q3⟩ := det_ne h1
  obtain ⟨r1, r2, r3⟩ := det_ne h2
  simp only [Bool.or_eq_false_iff] at h3 h4
  unfold conP at h3
  simp only [Bool.or_eq_false_iff] at h3
  have hp := (pt_facts ha).1
  have nd : ∀ {x : Int}, (x % (n : Int) == 0) = false → ¬ (n : Int) ∣ x := fun h hd => by rw [Int.emod_eq_zero_of_dvd hd] at h; exact absurd h (by decide)
  have := des_all hp (nd h1) (nd h2) (nzV_of ha hd h3.1.1) (nzV_of hb he h3.2.1.2.1) (nzV_of hc hf h3.2.2.2.2) (nz_sides ha hb hd he q1 r1 h4.1) (nz_sides hb hc he hf q2 r2 h4.2.1) (nz_sides hc ha hf hd q3 r3 h4.2.2) (Int.dvd_of_emod_eq_zero h5)
  exact ⟨okC_of this.1, this.2⟩
end Go.Proofs.Ytdiihhohaijcoaa
/- Contracts: the program's PappusLine, walked. (Printed by genp5.py, a program of this session.) -/
namespace Go.Proofs.Ytdiihhohaijcoaa
open Go.RowKit
set_option linter.unusedVariables false
set_option linter.unusedSimpArgs false
theorem results_rowT {P : Program} {fn : Func} {tmps : Array Value} {t s : Tmp} {W : World} {g : Nat} {T : TypeId} {cs : Array Value} {fr : Nat × Nat} {ty : TypeId} {x : Value} (h : fn.results = #[.cell t ty, .tmp s]) (ht : tmps.getD t undef = .pointer (some ⟨g, 0, none⟩)) (hx : tmps.getD s undef = x)
    (hg : W.heap[g]? = some (.cells cs T fr)) (n : Nat) (hn : cs.size = n) (hs : ∀ W, (sizeOf ty).run P W = .ok n W) (ha : ∀ W, (isAgg ty).run P W = .ok true W) : (results fn tmps).run P W = .ok (.tuple #[.agg cs, x]) W := by
  have hv := run_loadRow (P := P) ty hg n hn hs ha
  have ht' : tmps[t]?.getD undef = .pointer (some ⟨g, 0, none⟩) := by rw [← Array.getD_eq_getD_getElem?]; exact ht
  have hx' : tmps[s]?.getD undef = x := by rw [← Array.getD_eq_getD_getElem?]; exact hx
  have hp : ∀ a : Addr, asAddr (.pointer (some a)) = pure a := fun _ => rfl
  simp [results, h, ht', hx', hp, Sem.run_bind, Sem.run_pure, hv]
theorem rowI {w : World} {g off : Nat} {cs : Array Value} {T : TypeId} {fr : Nat × Nat} {z : Int} (h : w.heap[g]? = some (.cells cs T fr)) (hz : cs[off]? = some (.int .i64 z)) : w.cell? ⟨g, off, none⟩ = some (.int .i64 z) := by
  rw [cell_of_row w g off _ _ _ h]; exact hz
theorem pts3 {p : Int} {x y z u v t : Int} {a b c : Pt} (h : ptsB p [a, b, c] = true) : ptB p a.1 a.2.1 a.2.2 = true ∧ ptB p b.1 b.2.1 b.2.2 = true ∧ ptB p c.1 c.2.1 c.2.2 = true := by
  simp [ptsB] at h
  exact h
theorem list3 {l : List Pt} (h : l.length = 3) : ∃ a b c, l = [a, b, c] := by
  match l, h with
  | [a, b, c], _ => exact ⟨a, b, c, rfl⟩
end Go.Proofs.Ytdiihhohaijcoaa
/- Contracts: the reference's PappusLine, walked. (Printed by genp6.py, a program of this session.) -/
namespace Go.Proofs.Ytdiihhohaijcoaa
open Go.RowKit
set_option linter.unusedVariables false
set_option linter.unusedSimpArgs false
theorem own_sz {w : World} {base : Nat} {e : TypeId} {size n : Nat} {b : Addr} {m c : Nat} {xs : List Value} (h : w.ownsRow base e size (.slice (some b) m c) n xs) : base ≤ w.heap.size := by
  rcases h.2 with ⟨h1, _⟩ | ⟨g, cap, cur, h1, hb, hg, _⟩
  · cases h1
  · exact Nat.le_of_lt (Nat.lt_of_le_of_lt hb (Array.getElem?_eq_some_iff.1 hg).1)
theorem newPs (wr : World) (q : Nat) (hq : wr.heap.size = q) (x y z : Value) (T : TypeId) : ∀ (j : Nat) (u : Value), [x, y, z][j]? = some u → (wr.alloc (.cells #[x, y, z] T)).cell? ((⟨q, 0, none⟩ : Addr).add j) = some u := by
  subst hq
  exact newP wr x y z T
theorem own_szn {w : World} {base : Nat} {e : TypeId} {size n : Nat} {v : Value} {xs : List Value} (h : w.ownsRow base e size v n xs) (hn : 0 < n) : base ≤ w.heap.size := by
  rcases h.2 with ⟨_, h1⟩ | ⟨g, cap, cur, h1, hb, hg, _⟩
  · omega
  · exact Nat.le_of_lt (Nat.lt_of_le_of_lt hb (Array.getElem?_eq_some_iff.1 hg).1)
set_option maxRecDepth 20000 in
set_option maxHeartbeats 4000000 in
theorem l09Through_any (n : Nat) (gl cap : Nat) (x0 x1 x2 y0 y1 y2 z0 z1 z2 : Int) (w : World) (hp : prB (n : Int) = true) (ix : In13 (x0, x1, x2)) (iy : In13 (y0, y1, y2)) (iz : In13 (z0, z1, z2)) (hok : okC n (x0, x1, x2) (y0, y1, y2) = true) (hP : PtsAt w gl 0 3 [(x0, x1, x2), (y0, y1, y2), (z0, z1, z2)]) :
    Calls Try.prog 23 #[.int .i64 (n : Int), .slice (some ⟨gl, 0, none⟩) 3 cap] w (Ret w (.tuple #[ptV (crsN n (x0, x1, x2) (y0, y1, y2)).1 (crsN n (x0, x1, x2) (y0, y1, y2)).2.1 (crsN n (x0, x1, x2) (y0, y1, y2)).2.2, .bool (onB n (z0, z1, z2) (crsN n (x0, x1, x2) (y0, y1, y2)))])) := by
  have HJ := Lib.hid (fun (W : World) => l01Join_crs n x0 x1 x2 y0 y1 y2 W hp ix iy)
  have iR : In13 (crsN n (x0, x1, x2) (y0, y1, y2)) := crsN_in' hp
  have HOn : Hid (∀ W, Calls Try.prog 40 #[.int .i64 (n : Int), ptV z0 z1 z2, ptV (crsN n (x0, x1, x2) (y0, y1, y2)).1 (crsN n (x0, x1, x2) (y0, y1, y2)).2.1 (crsN n (x0, x1, x2) (y0, y1, y2)).2.2] W (Ret W (.bool (onB n (z0, z1, z2) (crsN n (x0, x1, x2) (y0, y1, y2)))))) := Lib.hid (fun W => l01On_any n z0 z1 z2 _ _ _ W hp iz iR)
  rw [hok] at HJ
  have HP0 := Lib.hid hP
  clear hP hok hp ix iy iz iR
  generalize onB n (z0, z1, z2) (crsN n (x0, x1, x2) (y0, y1, y2)) = ob at *
  generalize crsN n (x0, x1, x2) (y0, y1, y2) = r at *
  obtain ⟨r0, r1, r2⟩ := r
  dsimp only at *
  go_enter Try.func23, Try.ntmps23
  go_wp2
  have kr : (w.alloc (.cells #[.int .i64 0, .int .i64 0, .int .i64 0] 25)).heap[w.heap.size]? = some (.cells #[.int .i64 0, .int .i64 0, .int .i64 0] 25 (0, 0)) := heap_alloc_new _ _
  have HB0 := Lib.hid (show Below w.heap.size w (w.alloc (.cells #[.int .i64 0, .int .i64 0, .int .i64 0] 25)) from (by repeat (first | exact Below.refl _ _ | refine bset ?_ _ _ (by omega) _ | refine bal ?_ _ | refine bdrN ?_ _ | refine bdr ?_)))
  generalize w.alloc (.cells #[.int .i64 0, .int .i64 0, .int .i64 0] 25) = V1 at *
  have HP1 := Lib.hid (HP0.out.below HB0.out)
  have lr := (Array.getElem?_eq_some_iff.1 kr).1
  refine wp_loop_rounds 4 ?_
  rw [rounds_succ]; go_wp2
  refine region_boxes [⟨15, 16, 7, 25, #[.int .i64 0, .int .i64 0, .int .i64 0], #[.int .i64 r0, .int .i64 r1, .int .i64 r2]⟩] [(14, .int .i64 (n : Int)), (15, .slice (some ⟨gl, 0, none⟩) 3 cap), (16, .int .i64 0), (17, .pointer (some ⟨gl, 0, none⟩)), (18, ptV x0 x1 x2), (19, .slice (some ⟨gl, 0, none⟩) 3 cap), (20, .int .i64 0), (21, .int .i64 1), (22, .int .i64 1), (23, .pointer (some ⟨gl, 3, none⟩)), (24, ptV y0 y1 y2), (25, .tuple #[ptV r0 r1 r2, .bool true]), (13, .tuple #[ptV r0 r1 r2, .bool true]), (26, ptV r0 r1 r2), (27, .bool true), (8, .bool true)] (by kernel_rfl) (by kernel_rfl) (by kernel_rfl) (fun aE hpe => ?_)
  simp only [puts, Act.put, List.setIfInBounds_toArray, List.set_cons_zero, List.set_cons_succ] at hpe
  subst hpe
  refine ⟨⟨⟨?_, ?_⟩, trivial⟩, ⟨.inr ?_, .inr ?_, .inr ?_, .inr ?_, .inr ?_, .inr ?_, .inr ?_, .inr ?_, .inr ?_, .inr ?_, .inr ?_, .inr ?_, .inr ?_, .inr ?_, .inr ?_, .inl rfl, .inl rfl, .inr ?_, trivial⟩, ?_⟩
  · intro o ho ρ W
    obtain rfl : _ = o := Option.some.inj ho
    simp [execOp, go_sem]
  · intro o ho ρ W g hv hp hg
    obtain rfl : _ = o := Option.some.inj ho
    exact run_store_row (U := #[.int .i64 r0, .int .i64 r1, .int .i64 r2]) 25 (.tmp 7) (.tmp 26) rfl hp (hv 26 (by simp [readsOf, Op.operands]) (by show (26 : Nat) ≠ 7; decide)) hg rfl Try.sizeOf25 (by simp [Value.oneCell'])
  · exact CalmG.mk 14 (.int .i64 (n : Int)) rfl rfl rfl (fun W hW => calm_move (.tmp 0) rfl rfl)
  · exact CalmG.mk 15 (.slice (some ⟨gl, 0, none⟩) 3 cap) rfl rfl rfl (fun W hW => calm_move (.tmp 1) rfl rfl)
  · exact CalmG.mk 16 (.int .i64 0) rfl rfl rfl (fun W hW => calm_move (.tmp 6) rfl rfl)
  · exact CalmG.mk 17 (.pointer (some ⟨gl, 0, none⟩)) rfl rfl rfl (fun W hW => calm_run (by simp [execOp, Act.eval, go_sem]))
  · exact CalmG.mk 18 (ptV x0 x1 x2) rfl rfl rfl (fun W hW => calm_loadPt 42 (.tmp 17) rfl rfl (cell_below hW (HP1.out 0 (by omega)).1) (cell_below hW (HP1.out 0 (by omega)).2.1) (cell_below hW (HP1.out 0 (by omega)).2.2) Try.sizeOf42 Try.isAgg42)
  · exact CalmG.mk 19 (.slice (some ⟨gl, 0, none⟩) 3 cap) rfl rfl rfl (fun W hW => calm_move (.tmp 1) rfl rfl)
  · exact CalmG.mk 20 (.int .i64 0) rfl rfl rfl (fun W hW => calm_move (.tmp 6) rfl rfl)
  · exact CalmG.mk 21 (.int .i64 1) rfl rfl rfl (fun W hW => calm_run (by simp [execOp, Act.eval, go_sem, IntKind.wrap, IntKind.signed, IntKind.bits]))
  · exact CalmG.mk 22 (.int .i64 1) rfl rfl rfl (fun W hW => calm_run (by simp [execOp, Act.eval, go_sem, IntKind.wrap, IntKind.signed, IntKind.bits]))
  · exact CalmG.mk 23 (.pointer (some ⟨gl, 3, none⟩)) rfl rfl rfl (fun W hW => calm_run (by simp [execOp, Act.eval, go_sem]))
  · exact CalmG.mk 24 (ptV y0 y1 y2) rfl rfl rfl (fun W hW => calm_loadPt 42 (.tmp 23) rfl rfl (cell_below hW (HP1.out 1 (by omega)).1) (cell_below hW (HP1.out 1 (by omega)).2.1) (cell_below hW (HP1.out 1 (by omega)).2.2) Try.sizeOf42 Try.isAgg42)
  · exact CalmG.mk 25 (.tuple #[ptV r0 r1 r2, .bool true]) rfl rfl rfl (fun W hW => calm_call 21 _ #[.int .i64 (n : Int), ptV x0 x1 x2, ptV y0 y1 y2] rfl rfl rfl (by simp [Act.eval]) (Try.call21 _ _) (HJ.out W))
  · exact CalmG.mk 13 (.tuple #[ptV r0 r1 r2, .bool true]) rfl rfl rfl (fun W hW => calm_move (.tmp 25) rfl rfl)
  · exact CalmG.mk 26 (ptV r0 r1 r2) rfl rfl rfl (fun W hW => calm_extract (.tmp 13) 0 rfl rfl rfl)
  · exact CalmG.mk 27 (.bool true) rfl rfl rfl (fun W hW => calm_extract (.tmp 13) 1 rfl rfl rfl)
  · exact CalmG.mk 8 (.bool true) rfl rfl rfl (fun W hW => calm_assign (.tmp 27) rfl rfl)
  intro g V2 hW hbx _
  obtain ⟨pg0, pk0⟩ := hbx _ (.head _)
  dsimp only at pg0 pk0
  simp only [List.map_cons, List.map_nil, puts, Act.put, List.setIfInBounds_toArray, List.set_cons_zero, List.set_cons_succ]
  clear hbx
  generalize g 7 = pb0 at *
  have HB2 := Lib.hid (low_tr' HB0.out hW HB0.out.size)
  have kr2 := (hW.block _ lr).trans kr
  have lr2 := (Array.getElem?_eq_some_iff.1 kr2).1
  have HP2 := Lib.hid (HP0.out.below HB2.out)
  have pl0 := (Array.getElem?_eq_some_iff.1 pk0).1
  clear hW kr lr HP1 HB0 pg0 HJ
  go_wp2
  refine region_via 10 [(29, ptV r0 r1 r2), (30, .int .i64 (n : Int)), (31, .slice (some ⟨gl, 0, none⟩) 3 cap), (32, .int .i64 0), (33, .int .i64 2), (34, .int .i64 2), (35, .pointer (some ⟨gl, 6, none⟩)), (36, ptV z0 z1 z2), (37, ptV r0 r1 r2), (38, .bool ob)] (by kernel_rfl) (by decide) (by kernel_rfl) (by kernel_rfl) (by kernel_rfl) (fun aE hpe => ?_)
  simp only [puts, Act.put, List.setIfInBounds_toArray, List.set_cons_zero, List.set_cons_succ] at hpe
  subst hpe
  refine ⟨⟨.inr (.inr ?_), .inr (.inr ?_), .inr (.inr ?_), .inr (.inr ?_), .inr (.inr ?_), .inr (.inr ?_), .inr (.inr ?_), .inr (.inr ?_), .inr (.inr ?_), .inr (.inr ?_), trivial⟩, ?_⟩
  · exact CalmG.mk 29 (ptV r0 r1 r2) rfl rfl rfl (fun W hW => calm_load (cs := #[.int .i64 r0, .int .i64 r1, .int .i64 r2]) (g := pb0) (T := 25) (fr := (0, 0)) 25 (.tmp 7) rfl rfl ((hW.block _ pl0).trans pk0) 3 rfl Try.sizeOf25 Try.isAgg25)
  · exact CalmG.mk 30 (.int .i64 (n : Int)) rfl rfl rfl (fun W hW => calm_move (.tmp 0) rfl rfl)
  · exact CalmG.mk 31 (.slice (some ⟨gl, 0, none⟩) 3 cap) rfl rfl rfl (fun W hW => calm_move (.tmp 1) rfl rfl)
  · exact CalmG.mk 32 (.int .i64 0) rfl rfl rfl (fun W hW => calm_move (.tmp 6) rfl rfl)
  · exact CalmG.mk 33 (.int .i64 2) rfl rfl rfl (fun W hW => calm_run (by simp [execOp, Act.eval, go_sem, IntKind.wrap, IntKind.signed, IntKind.bits]))
  · exact CalmG.mk 34 (.int .i64 2) rfl rfl rfl (fun W hW => calm_run (by simp [execOp, Act.eval, go_sem, IntKind.wrap, IntKind.signed, IntKind.bits]))
  · exact CalmG.mk 35 (.pointer (some ⟨gl, 6, none⟩)) rfl rfl rfl (fun W hW => calm_run (by simp [execOp, Act.eval, go_sem]))
  · exact CalmG.mk 36 (ptV z0 z1 z2) rfl rfl rfl (fun W hW => calm_loadPt 42 (.tmp 35) rfl rfl (cell_below hW (HP2.out 2 (by omega)).1) (cell_below hW (HP2.out 2 (by omega)).2.1) (cell_below hW (HP2.out 2 (by omega)).2.2) Try.sizeOf42 Try.isAgg42)
  · exact CalmG.mk 37 (ptV r0 r1 r2) rfl rfl rfl (fun W hW => calm_load (cs := #[.int .i64 r0, .int .i64 r1, .int .i64 r2]) (g := pb0) (T := 25) (fr := (0, 0)) 25 (.tmp 7) rfl rfl ((hW.block _ pl0).trans pk0) 3 rfl Try.sizeOf25 Try.isAgg25)
  · exact CalmG.mk 38 (.bool ob) rfl rfl rfl (fun W hW => calm_call 40 _ #[.int .i64 (n : Int), ptV z0 z1 z2, ptV r0 r1 r2] rfl rfl rfl (by simp [Act.eval]) (Try.call40 _ _) (HOn.out W))
  intro W hW
  simp only [List.drop_succ_cons, List.drop_zero]
  refine wpList_store_row _ rfl 25 _ _ rfl rfl (g := w.heap.size) (T := 25) (cs := #[.int .i64 0, .int .i64 0, .int .i64 0]) (U := #[.int .i64 r0, .int .i64 r1, .int .i64 r2]) rfl rfl ((hW.block _ lr2).trans kr2) rfl Try.sizeOf25 (by simp [Value.oneCell']) ?_
  go_wp2
  exact bodyPost_ret (v := .tuple #[ptV r0 r1 r2, .bool ob]) (results_rowT Try.results23 rfl rfl (setRow_heap _ _ #[.int .i64 0, .int .i64 0, .int .i64 0] _ _ _ ((hW.block _ lr2).trans kr2)) 3 rfl Try.sizeOf25 Try.isAgg25) rfl ⟨rfl, below_setRowN (low_tr' HB2.out hW HB2.out.size) (Nat.le_refl _) _⟩
end Go.Proofs.Ytdiihhohaijcoaa
/- Contracts: pointsThat, for each closure that is handed to it. (Printed by genthat.py, a program of this session.) -/
namespace Go.Proofs.Ytdiihhohaijcoaa
open Go.RowKit
set_option linter.unusedVariables false
set_option linter.unusedSimpArgs false
end Go.Proofs.Ytdiihhohaijcoaa
/- Contracts: the two closures of QuadranglePoint. -/
namespace Go.Proofs.Ytdiihhohaijcoaa
open Go.RowKit
set_option linter.unusedVariables false
set_option linter.unusedSimpArgs false
end Go.Proofs.Ytdiihhohaijcoaa
/- Contracts: the fourth harmonic point: the reference. -/
namespace Go.Proofs.Ytdiihhohaijcoaa
open Go.RowKit
set_option linter.unusedVariables false
set_option linter.unusedSimpArgs false
theorem hn_past' (w : World) (o : Obj) (n : Nat) (h : n < w.heap.size) : (w.alloc o).heap[n]? = w.heap[n]? := by
  rw [heap_alloc_old]; exact h
theorem eqgPo : Try.prog.eqGuardType Try.prog.depth 42 = false := by kernel_rfl
theorem calm_eqPo {o : Oper} {ρ : Operand → Value} {W : World} {k : TypeId} (x y : Operand) {a0 a1 a2 b0 b1 b2 : Int} {v : Bool} (ho : o.op = .binOp .eql 42 x y k) (hx : ρ x = ptV a0 a1 a2) (hy : ρ y = ptV b0 b1 b2) (hv : eqP (a0, a1, a2) (b0, b1, b2) = v) : calmAt Try.prog o ρ W (.bool v) := by
  refine calm_run ?_
  unfold execOp
  subst hv
  simp only [ho, hx, hy, Sem.run_bind, run_eqGuard_agg W .eql 42 x y _ _ eqgPo, Result.andThen_ok, eqPo, Sem.run_pure]
theorem calm_pick' {P : Program} {o : Oper} {ρ : Operand → Value} {W : World} (x y z : Operand) {c : Bool} {v : Value} (ho : o.op = .pick x y z) (hx : ρ x = .bool c) (hv : (if c = true then ρ y else ρ z) = v) : calmAt P o ρ W v := by
  refine calm_run ?_
  unfold execOp
  subst hv
  simp only [ho, hx, asBool, Sem.run_bind, Sem.run_pure, Result.andThen_ok]
theorem head_two {n : Nat} {A R S s : Pt} (h : headP ((allP n).filter (fun x => onB (n : Int) x S && (!eqP x A && !eqP x R))) = s) :
    headP (((allP n).filter (fun x => onB (n : Int) x S)).filter (fun x => !eqP x A && !eqP x R)) = s := by
  rw [List.filter_filter, ← h]
  congr 2
  funext x
  exact Bool.and_comm _ _
theorem rows3 {W : World} {g : Nat} {x y z : Int} {T : TypeId} (h : W.heap[g]? = some (.cells #[.int .i64 x, .int .i64 y, .int .i64 z] T (0, 0))) :
    W.cell? ⟨g, 0, none⟩ = some (.int .i64 x) ∧ W.cell? ⟨g, 1, none⟩ = some (.int .i64 y) ∧ W.cell? ⟨g, 2, none⟩ = some (.int .i64 z) ∧ g < W.heap.size ∧ W.frozen? ⟨g, 0, none⟩ = false ∧ W.frozen? ⟨g, 1, none⟩ = false ∧ W.frozen? ⟨g, 2, none⟩ = false :=
  ⟨by rw [cell_of_row W g 0 _ _ _ h]; rfl, by rw [cell_of_row W g 1 _ _ _ h]; rfl, by rw [cell_of_row W g 2 _ _ _ h]; rfl, (Array.getElem?_eq_some_iff.1 h).1, frozen_of_row W g 0 _ _ h, frozen_of_row W g 1 _ _ h, frozen_of_row W g 2 _ _ h⟩
theorem three_ne {p : Int} {a b c : Pt} (h : threeB p a b c = true) : eqP a b = false := by
  unfold threeB at h
  rw [Bool.and_eq_true] at h
  cases e : eqP a b with
  | false => rfl
  | true => rw [e] at h; cases h.1
theorem quadR_no {p : Int} {a b c : Pt} (h : codeOf p (ptsB p [a, b, c]) ≠ 0) : quadR p a b c = ((0, 0, 0), codeOf p (ptsB p [a, b, c])) := by
  unfold quadR; rw [if_pos h]
theorem quadR_three {p : Int} {a b c : Pt} (h : codeOf p (ptsB p [a, b, c]) = 0) (h3 : threeB p a b c = false) : quadR p a b c = ((0, 0, 0), 5) := by
  unfold quadR; rw [if_neg (by simpa using h), if_pos h3]
/-- What the walks lean on, the points named. -/
structure QuadAt (n : Nat) (A B C L R S s V1 V2 t V3 V4 u V5 o : Pt) : Prop where
  eq : quadR n A B C = (o, 0)
  hp : prB (n : Int) = true
  n3 : 3 ≤ n ∧ n ≤ 13
  iA : In13 A
  iB : In13 B
  iC : In13 C
  iR : In13 R
  is : In13 s
  iL : In13 L
  iS : In13 S
  i1 : In13 V1
  i2 : In13 V2
  it : In13 t
  i3 : In13 V3
  i4 : In13 V4
  iu : In13 u
  i5 : In13 V5
  eL : crsN n A B = L
  offL : ∃ x ∈ allP n, onB (n : Int) x L = false
  eR : headP ((allP n).filter (fun x => !onB (n : Int) x L)) = R
  eS : crsN n A R = S
  onS : ∃ x ∈ allP n, (onB (n : Int) x S = true ∧ x ≠ A ∧ x ≠ R)
  es : headP ((allP n).filter (fun x => onB (n : Int) x S && (!eqP x A && !eqP x R))) = s
  e1 : crsN n B s = V1
  e2 : crsN n C R = V2
  et : crsN n V1 V2 = t
  e3 : crsN n B R = V3
  e4 : crsN n A t = V4
  eu : crsN n V3 V4 = u
  e5 : crsN n s u = V5
  eo : crsN n L V5 = o
theorem headP_mem {f : Pt → Bool} {l : List Pt} (h : ∃ x ∈ l, f x = true) : headP (l.filter f) ∈ l := by
  obtain ⟨x, hx, hf⟩ := h
  have : x ∈ l.filter f := List.mem_filter.2 ⟨hx, hf⟩
  cases e : l.filter f with
  | nil => rw [e] at this; cases this
  | cons y r => exact (List.mem_filter.1 (show y ∈ l.filter f by rw [e]; simp)).1
theorem quad_at {p : Int} {A B C : Pt} (h : codeOf p (ptsB p [A, B, C]) = 0) (h3 : threeB p A B C = true) :
    ∃ n : Nat, p = n ∧ ∃ L R S s V1 V2 t V3 V4 u V5 o, QuadAt n A B C L R S s V1 V2 t V3 V4 u V5 o := by
  obtain ⟨hp, hpts⟩ := code_zero h
  have hb := prB_bd hp
  obtain ⟨n, rfl⟩ : ∃ n : Nat, p = n := ⟨p.toNat, by omega⟩
  simp only [ptsB, List.all_cons, List.all_nil, Bool.and_true, Bool.and_eq_true] at hpts
  obtain ⟨qa, qb, qc⟩ := hpts
  obtain ⟨f1, f2⟩ := quad_facts qa qb (three_ne h3)
  have n13 : n ≤ 13 := by omega
  have mR : quadR1 n A B ∈ allP n := headP_mem (by obtain ⟨x, hx, h2⟩ := f1; exact ⟨x, hx, by rw [h2]; rfl⟩)
  have ms : quadS n A (quadR1 n A B) ∈ allP n := headP_mem (by
    obtain ⟨x, hx, h1, h2, h3⟩ := f2
    refine ⟨x, hx, ?_⟩
    have e2 : eqP x A = false := by cases e : eqP x A with | false => rfl | true => exact (h2 (eqP_iff.1 e)).elim
    have e3 : eqP x (quadR1 n A B) = false := by cases e : eqP x (quadR1 n A B) with | false => rfl | true => exact (h3 (eqP_iff.1 e)).elim
    rw [h1, e2, e3]; rfl)
  have ci : ∀ a b, In13 (crsN n a b) := fun a b => crsN_in' (a := a) (b := b) hp
  refine ⟨n, rfl, _, _, _, _, _, _, _, _, _, _, _, _, ⟨?_, hp, by omega, in13' qa, in13' qb, in13' qc, allP_in n13 _ mR, allP_in n13 _ ms, ci _ _, ci _ _, ci _ _, ci _ _, ci _ _, ci _ _, ci _ _, ci _ _, ci _ _, rfl, f1, rfl, rfl, f2, rfl, rfl, rfl, rfl, rfl, rfl, rfl, rfl, rfl⟩⟩
  unfold quadR
  rw [if_neg (by simpa using h), if_neg (by rw [h3]; decide), Int.toNat_natCast]
end Go.Proofs.Ytdiihhohaijcoaa
/- Contracts: slices.Index and slices.Contains over points; two own lists of points, with what else a walk holds. (Printed by genq3.py, a program of this session.) -/
namespace Go.Proofs.Ytdiihhohaijcoaa
open Go.RowKit
set_option linter.unusedVariables false
set_option linter.unusedSimpArgs false
/-- The number that Index hands back. -/
def IdxOf (x : Pt) (L : List Pt) (w : World) (e : Ending) (w' : World) : Prop := ∃ v : Int, e = .returned (.int .i64 v) ∧ decide (0 ≤ v) = L.any (fun b => eqP x b) ∧ Below w.heap.size w w'
set_option maxRecDepth 20000 in
set_option maxHeartbeats 4000000 in
theorem IndexP_any (x0 x1 x2 : Int) (g n c : Nat) (L : List Pt) (w : World) (hn : n ≤ 1000000) (hL : L.length = n) (hP : PtsAt w g 0 n L) :
    Calls Try.prog 49 #[.slice (some ⟨g, 0, none⟩) n c, ptV x0 x1 x2] w (IdxOf (x0, x1, x2) L w) := by
  have HP := Lib.hid hP
  have HLn := Lib.hid hL
  clear hP hL
  go_enter Try.func49, Try.ntmps49
  go_wp2
  go_loopw [8] (fun i wr => ∃ k : Nat, k ≤ n ∧ i = .int .i64 k ∧ Hid (∀ j, j < k → eqP (x0, x1, x2) (L.getD j (0, 0, 0)) = false) ∧ Hid (wr.heap[w.heap.size]? = some (.cells #[.int .i64 x0, .int .i64 x1, .int .i64 x2] 42 (0, 0))) ∧ Hid (Below w.heap.size w wr)) (fun i wr => n - (intOf i).toNat)
  case atStart => exact ⟨0, Nat.zero_le _, rfl, Lib.hid (fun j hj => absurd hj (Nat.not_lt_zero _)), Lib.hid (heap_alloc_new _ _), Lib.hid (bal (Below.refl _ _) _)⟩
  case round =>
    obtain ⟨k, hk, rfl, HA, HX, HB⟩ := hrel
    by_cases hlt : k < n
    · have hkk := (HP.out.below HB.out) k hlt
      obtain ⟨b, hb⟩ : ∃ b, L.getD k (0, 0, 0) = b := ⟨_, rfl⟩
      rw [hb] at hkk
      obtain ⟨b0, b1, b2⟩ := b
      simp only [Nat.zero_add] at hkk
      obtain ⟨c0, c1, c2⟩ := hkk
      have C0 := Lib.hid c0; have C1 := Lib.hid c1; have C2 := Lib.hid c2
      have hlx := (Array.getElem?_eq_some_iff.1 HX.out).1
      obtain ⟨eb, heb⟩ : ∃ eb, eqP (x0, x1, x2) (b0, b1, b2) = eb := ⟨_, rfl⟩
      have HEb := Lib.hid heb
      have HLb := Lib.hid hb
      clear heb hb c0 c1 c2
      go_wp2
      refine region_calmG [(11, ptV x0 x1 x2), (12, .slice (some ⟨g, 0, none⟩) n c), (13, .int .i64 (k : Int)), (14, .pointer (some ⟨g, k * 3, none⟩)), (15, ptV b0 b1 b2), (16, .bool eb)] (by kernel_rfl) (by kernel_rfl) (by kernel_rfl) (fun aE hpe => ?_)
      simp only [puts, Act.put, List.setIfInBounds_toArray, List.set_cons_zero, List.set_cons_succ] at hpe
      subst hpe
      refine ⟨⟨.inr (.inr ?_), .inr (.inr ?_), .inr (.inr ?_), .inr (.inr ?_), .inr (.inr ?_), .inr (.inr ?_), trivial⟩, ?_⟩
      · exact CalmG.mk 11 (ptV x0 x1 x2) rfl rfl rfl (fun W hW => calm_load (cs := #[.int .i64 x0, .int .i64 x1, .int .i64 x2]) (g := w.heap.size) (T := 42) (fr := (0, 0)) 42 (.tmp 3) rfl rfl ((hW.block _ hlx).trans HX.out) 3 rfl Try.sizeOf42 Try.isAgg42)
      · exact CalmG.mk 12 (.slice (some ⟨g, 0, none⟩) n c) rfl rfl rfl (fun W hW => calm_move (.tmp 0) rfl rfl)
      · exact CalmG.mk 13 (.int .i64 (k : Int)) rfl rfl rfl (fun W hW => calm_move (.tmp 5) rfl rfl)
      · exact CalmG.mk 14 (.pointer (some ⟨g, k * 3, none⟩)) rfl rfl rfl (fun W hW => calm_run (by simp [execOp, Act.eval, go_sem, Addr.add, hlt] <;> omega))
      · exact CalmG.mk 15 (ptV b0 b1 b2) rfl rfl rfl (fun W hW => calm_loadPt 42 (.tmp 14) rfl rfl (cell_below hW C0.out) (cell_below hW C1.out) (cell_below hW C2.out) Try.sizeOf42 Try.isAgg42)
      · exact CalmG.mk 16 (.bool eb) rfl rfl rfl (fun W hW => calm_eqPo (.tmp 11) (.tmp 15) rfl rfl rfl HEb.out)
      intro W hW
      have HW := Lib.hid hW
      have hws := hW.size
      clear hW
      cases eb with
      | true =>
        go_wp2
        go_ret
        refine ⟨(k : Int), rfl, ?_, low_tr' HB.out HW.out HB.out.size⟩
        rw [decide_eq_true (by omega), Eq.comm, List.any_eq_true]
        exact ⟨(b0, b1, b2), by have h9 : k < L.length := (by rw [HLn.out]; exact hlt); rw [← HLb.out, List.getD_eq_getElem?_getD, List.getElem?_eq_getElem h9]; exact List.getElem_mem h9, HEb.out⟩
      | false =>
        go_wp2
        go_roundw
        case rel => exact ⟨k + 1, by omega, by go_num, Lib.hid (fun j hj => by
          rcases Nat.lt_or_ge j k with h | h
          · exact HA.out j h
          · have : j = k := by omega
            rw [this, HLb.out]; exact HEb.out), Lib.hid ((HW.out.block _ hlx).trans HX.out), Lib.hid (low_tr' HB.out HW.out HB.out.size)⟩
        case measure => simp [intOf]; omega
    · have hkn : k = n := by omega
      go_wp2
      go_ret
      refine ⟨-1, rfl, ?_, HB.out⟩
      rw [decide_eq_false (by omega), Eq.comm, List.any_eq_false]
      intro b hb
      obtain ⟨j, hj, e⟩ := List.mem_iff_getElem.1 hb
      have := HA.out j (by rw [hkn, ← HLn.out]; exact hj)
      rw [List.getD_eq_getElem?_getD, List.getElem?_eq_getElem hj] at this
      simp only [Option.getD_some] at this
      rw [← e, this]; simp
set_option maxHeartbeats 2000000 in
theorem ContainsP_any (x0 x1 x2 : Int) (g n c : Nat) (L : List Pt) (w : World) (hn : n ≤ 1000000) (hL : L.length = n) (hP : PtsAt w g 0 n L) :
    Calls Try.prog 28 #[.slice (some ⟨g, 0, none⟩) n c, ptV x0 x1 x2] w (Ret w (.bool (L.any (fun b => eqP (x0, x1, x2) b)))) := by
  have HI := Lib.hid (fun (W : World) (hW : Below w.heap.size w W) => IndexP_any x0 x1 x2 g n c L W hn hL (hP.below hW))
  clear hP hL
  go_enter Try.func28, Try.ntmps28
  go_wp2_with (first
    | (refine wpList_load_row _ rfl 42 _ rfl (g := w.heap.size) (T := 42) (cs := #[.int .i64 x0, .int .i64 x1, .int .i64 x2]) (fr := (0, 0)) rfl (heap_alloc_new _ _) 3 rfl Try.sizeOf42 Try.isAgg42 ?_)
    | (go_at_call 49; refine (HI.out _ (bal (Below.refl _ _) _)).mono ?_; rintro e w1_ ⟨v, rfl, hv, hb⟩; have HV := Lib.hid hv; have HB1 := Lib.hid hb; clear hv hb))
  go_ret
  refine ⟨?_, (by repeat (first | exact Below.refl _ _ | refine bset ?_ _ _ (by omega) _ | refine bal ?_ _ | refine bdrN ?_ _ | refine bdr ?_ | refine below_tr' ?_ HB1.out))⟩
  rw [← HV.out]
  first | rfl | simp [Value.bool]
/-- What a walk holds beside its two own lists: the result's cell. -/
structure DesS (w W : World) (B : Nat) (T1 T2 : TypeId) (v1 : Value) (n1 : Nat) (l1 : List Pt) (v2 : Value) (n2 : Nat) (l2 : List Pt) : Prop where
  kr : W.heap[w.heap.size]? = some (.cells #[.int .i64 0, .int .i64 0, .int .i64 0] 25 (0, 0))
  bl : Below w.heap.size w W
  o1 : W.ownsRow B T1 3 v1 n1 (ptCs l1)
  o2 : W.ownsRow B T2 3 v2 n2 (ptCs l2)
  ne : ∀ b c, v1.ownBlock = some b → v2.ownBlock = some c → b ≠ c
  lo : w.heap.size < B
theorem DesS.below {w W W' : World} {B : Nat} {T1 T2 : TypeId} {v1 v2 : Value} {n1 n2 : Nat} {l1 l2 : List Pt} (h : DesS w W B T1 T2 v1 n1 l1 v2 n2 l2) (hb : Below W.heap.size W W') : DesS w W' B T1 T2 v1 n1 l1 v2 n2 l2 :=
  ⟨(hb.block _ (Array.getElem?_eq_some_iff.1 h.kr).1).trans h.kr, low_tr' h.bl hb h.bl.size, own_below h.o1 hb, own_below h.o2 hb, h.ne, h.lo⟩
theorem DesS.start {w W : World} (T1 T2 : TypeId) (kr : W.heap[w.heap.size]? = some (.cells #[.int .i64 0, .int .i64 0, .int .i64 0] 25 (0, 0))) (bl : Below w.heap.size w W) :
    DesS w ((W.alloc (.cells #[] T1)).alloc (.cells #[] T2)) W.heap.size T1 T2 (.slice (some ⟨W.heap.size, 0, none⟩) 0 0) 0 [] (.slice (some ⟨W.heap.size + 1, 0, none⟩) 0 0) 0 [] := by
  have l0 := (Array.getElem?_eq_some_iff.1 kr).1
  have e1 : ((W.alloc (.cells #[] T1)).alloc (.cells #[] T2)).heap[W.heap.size]? = some (.cells #[] T1 (0, 0)) := by rw [hn_pastN _ _ _ (by simp)]; exact heap_alloc_new _ _
  have e2 : ((W.alloc (.cells #[] T1)).alloc (.cells #[] T2)).heap[W.heap.size + 1]? = some (.cells #[] T2 (0, 0)) := by
    have := heap_alloc_new (W.alloc (.cells #[] T1)) (.cells #[] T2)
    simpa using this
  exact ⟨by rw [hn_pastN _ _ _ (by simp; omega), hn_pastN _ _ _ l0]; exact kr, bal (bal bl _) _, ⟨rfl, .inr ⟨W.heap.size, 0, #[], rfl, Nat.le_refl _, e1, Nat.le_refl _, by unfold maxLen; omega, rfl, rfl⟩⟩,
    ⟨rfl, .inr ⟨W.heap.size + 1, 0, #[], rfl, by omega, e2, Nat.le_refl _, by unfold maxLen; omega, rfl, rfl⟩⟩, (fun b c hb hc => by simp [Value.ownBlock] at hb hc; omega), l0⟩
theorem DesS.app2 {w W Wx W' : World} {B : Nat} {T1 T2 : TypeId} {v1 v2 v2' : Value} {n1 n2 n2' : Nat} {l1 l2 l2' : List Pt} (h : DesS w W B T1 T2 v1 n1 l1 v2 n2 l2) (hx : Below W.heap.size W Wx) (ho : W'.ownsRow B T2 3 v2' n2' (ptCs l2')) (hg : Wx.grownBy W' v2.ownBlock) (hb : v2'.ownBlock = v2.ownBlock ∨ v2'.ownBlock = some Wx.heap.size) : DesS w W' B T1 T2 v1 n1 l1 v2' n2' l2' := by
  have h2 := h.below hx
  have hol := own_base' h2.o2
  have hl1 := own_lt h2.o1
  have hk := (Array.getElem?_eq_some_iff.1 h2.kr).1
  refine ⟨(hg.block _ hk (fun e => by have := hol _ e.symm; have := h.lo; omega)).trans h2.kr, h2.bl.grown hg h2.bl.size (fun k' hk' => by have := hol k' hk'; have := h.lo; omega), own_same h2.o1 (fun b hb' => hg.block b (hl1 b hb') (fun e => h.ne b b hb' e.symm rfl)), ho, fun b c hb' hc => ?_, h.lo⟩
  rcases hb with e | e
  · exact h.ne b c hb' (e ▸ hc)
  · rw [e] at hc
    have := hl1 b hb'
    have := Option.some.inj hc
    omega
theorem DesS.app1 {w W Wx W' : World} {B : Nat} {T1 T2 : TypeId} {v1 v2 v1' : Value} {n1 n2 n1' : Nat} {l1 l2 l1' : List Pt} (h : DesS w W B T1 T2 v1 n1 l1 v2 n2 l2) (hx : Below W.heap.size W Wx) (ho : W'.ownsRow B T1 3 v1' n1' (ptCs l1')) (hg : Wx.grownBy W' v1.ownBlock) (hb : v1'.ownBlock = v1.ownBlock ∨ v1'.ownBlock = some Wx.heap.size) : DesS w W' B T1 T2 v1' n1' l1' v2 n2 l2 := by
  have h2 := h.below hx
  have hol := own_base' h2.o1
  have hl1 := own_lt h2.o2
  have hk := (Array.getElem?_eq_some_iff.1 h2.kr).1
  refine ⟨(hg.block _ hk (fun e => by have := hol _ e.symm; have := h.lo; omega)).trans h2.kr, h2.bl.grown hg h2.bl.size (fun k' hk' => by have := hol k' hk'; have := h.lo; omega), ho, own_same h2.o2 (fun b hb' => hg.block b (hl1 b hb') (fun e => h.ne b b e.symm hb' rfl)), fun b c hb' hc => ?_, h.lo⟩
  rcases hb with e | e
  · exact h.ne b c (e ▸ hb') hc
  · rw [e] at hb'
    have := hl1 c hc
    have := Option.some.inj hb'
    omega
end Go.Proofs.Ytdiihhohaijcoaa
/- Contracts: plain facts for DesarguesLine's walks.  -/
namespace Go.Proofs.Ytdiihhohaijcoaa
open Go.RowKit
set_option linter.unusedVariables false
set_option linter.unusedSimpArgs false
theorem calm_nePo {o : Oper} {ρ : Operand → Value} {W : World} {k : TypeId} (x y : Operand) {a0 a1 a2 b0 b1 b2 : Int} {v : Bool} (ho : o.op = .binOp .neq 42 x y k) (hx : ρ x = ptV a0 a1 a2) (hy : ρ y = ptV b0 b1 b2) (hv : eqP (a0, a1, a2) (b0, b1, b2) = v) : calmAt Try.prog o ρ W (.bool (!v)) := by
  refine calm_run ?_
  unfold execOp
  subst hv
  simp only [ho, hx, hy, Sem.run_bind, run_eqGuard_agg W .neq 42 x y _ _ eqgPo, Result.andThen_ok, nePo, Sem.run_pure]
/-- The flag behind m of the nine pairs. -/
def gN (L1 L2 : List Pt) (t : Bool) : Nat → Bool
  | 0 => t
  | m + 1 => gN L1 L2 t m && !eqP (L1.getD (m / 3) (0, 0, 0)) (L2.getD (m % 3) (0, 0, 0))
theorem gN_step (L1 L2 : List Pt) (t : Bool) (i k : Nat) (h : k < 3) : gN L1 L2 t (3 * i + (k + 1)) = (gN L1 L2 t (3 * i + k) && !eqP (L1.getD i (0, 0, 0)) (L2.getD k (0, 0, 0))) := by
  have e : 3 * i + (k + 1) = (3 * i + k) + 1 := by omega
  rw [e]
  show (gN L1 L2 t (3 * i + k) && !eqP (L1.getD ((3 * i + k) / 3) (0, 0, 0)) (L2.getD ((3 * i + k) % 3) (0, 0, 0))) = _
  rw [show (3 * i + k) / 3 = i by omega, show (3 * i + k) % 3 = k by omega]
def desG (p : Int) (a b c d e f : Pt) : Bool := (!(detZ a b c % p == 0) && !(detZ d e f % p == 0)) && !(conP d e f a || (conP d e f b || conP d e f c))
theorem gN_nine (p : Int) (a b c d e f : Pt) : gN [a, b, c] [d, e, f] (!(detZ a b c % p == 0) && !(detZ d e f % p == 0)) 9 = desG p a b c d e f := by
  unfold desG conP
  simp only [gN]
  simp only [show 0 / 3 = 0 from rfl, show 1 / 3 = 0 from rfl, show 2 / 3 = 0 from rfl, show 3 / 3 = 1 from rfl, show 4 / 3 = 1 from rfl, show 5 / 3 = 1 from rfl, show 6 / 3 = 2 from rfl, show 7 / 3 = 2 from rfl, show 8 / 3 = 2 from rfl,
    show 0 % 3 = 0 from rfl, show 1 % 3 = 1 from rfl, show 2 % 3 = 2 from rfl, show 3 % 3 = 0 from rfl, show 4 % 3 = 1 from rfl, show 5 % 3 = 2 from rfl, show 6 % 3 = 0 from rfl, show 7 % 3 = 1 from rfl, show 8 % 3 = 2 from rfl]
  show (_ && !eqP a d && !eqP a e && !eqP a f && !eqP b d && !eqP b e && !eqP b f && !eqP c d && !eqP c e && !eqP c f) = _
  simp only [Bool.not_or, Bool.and_assoc]
structure DesF (n : Nat) (a b c d e f : Pt) (R : Pt × Int) : Prop where
  bad : desG n a b c d e f = false → R = ((0, 0, 0), 5)
  ok0 : desG n a b c d e f = true → okC n (crsN n a b) (crsN n d e) = !desE n a b d e
  ok1 : desG n a b c d e f = true → okC n (crsN n b c) (crsN n e f) = !desE n b c e f
  ok2 : desG n a b c d e f = true → okC n (crsN n c a) (crsN n f d) = !desE n c a f d
  eq : (desE n a b d e || (desE n b c e f || desE n c a f d)) = true → R = ((0, 0, 0), 5)
  det : desD n a b c d e f ≠ 0 → R = ((0, 0, 0), 5)
  fin : desG n a b c d e f = true → (desE n a b d e || (desE n b c e f || desE n c a f d)) = false → desD n a b c d e f = 0 →
    okC n (desM n a b d e) (desM n b c e f) = true ∧ onB n (desM n c a f d) (crsN n (desM n a b d e) (desM n b c e f)) = true ∧ R = (crsN n (desM n a b d e) (desM n b c e f), 0)
theorem desG_facts {n : Nat} {a b c d e f : Pt} (h : desG n a b c d e f = true) : (detZ a b c % (n : Int) == 0) = false ∧ (detZ d e f % (n : Int) == 0) = false ∧ (conP d e f a || (conP d e f b || conP d e f c)) = false := by
  unfold desG at h
  cases h1 : (detZ a b c % (n : Int) == 0) <;> cases h2 : (detZ d e f % (n : Int) == 0) <;> cases h3 : (conP d e f a || (conP d e f b || conP d e f c)) <;> rw [h1, h2, h3] at h <;> simp_all
theorem desF_of {n : Nat} {a b c d e f : Pt} (ha : ptB (n : Int) a.1 a.2.1 a.2.2 = true) (hb : ptB (n : Int) b.1 b.2.1 b.2.2 = true) (hc : ptB (n : Int) c.1 c.2.1 c.2.2 = true) (hd : ptB (n : Int) d.1 d.2.1 d.2.2 = true) (he : ptB (n : Int) e.1 e.2.1 e.2.2 = true) (hf : ptB (n : Int) f.1 f.2.1 f.2.2 = true) :
    DesF n a b c d e f (desC n a b c d e f) := by
  refine ⟨fun h => ?_, fun h => ?_, fun h => ?_, fun h => ?_, desC_eq, desC_det, fun h h4 h5 => ?_⟩
  · unfold desG at h
    cases h1 : (detZ a b c % (n : Int) == 0) with
    | true => exact desC_f1 d e f h1
    | false => cases h2 : (detZ d e f % (n : Int) == 0) with
      | true => exact desC_f2 a b c h2
      | false => exact desC_con (by
          cases hh : (conP d e f a || (conP d e f b || conP d e f c)) with
          | true => rfl
          | false => rw [h1, h2, hh] at h; simp at h)
  · obtain ⟨h1, h2, h3⟩ := desG_facts h
    obtain ⟨q1, q2, q3⟩ := det_ne h1
    obtain ⟨r1, r2, r3⟩ := det_ne h2
    exact ok_sides ha hb hd he q1 r1
  · obtain ⟨h1, h2, h3⟩ := desG_facts h
    obtain ⟨q1, q2, q3⟩ := det_ne h1
    obtain ⟨r1, r2, r3⟩ := det_ne h2
    exact ok_sides hb hc he hf q2 r2
  · obtain ⟨h1, h2, h3⟩ := desG_facts h
    obtain ⟨q1, q2, q3⟩ := det_ne h1
    obtain ⟨r1, r2, r3⟩ := det_ne h2
    exact ok_sides hc ha hf hd q3 r3
  · obtain ⟨h1, h2, h3⟩ := desG_facts h
    obtain ⟨t1, t2⟩ := des_thr ha hb hc hd he hf h1 h2 h3 h4 h5
    exact ⟨t1, t2, desC_good h1 h2 h3 h4 h5⟩
end Go.Proofs.Ytdiihhohaijcoaa
