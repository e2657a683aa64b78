/- Texts of the claim, in build order: P5, P6. No condition. -/
import Derived.Test.YthkbhaaodegocaaZPappusLine8
/- Contracts: the program's PappusLine, walked. (Printed by genp5.py, a program of this session.) -/
namespace Go.Proofs.Ythkbhaaodegocaa
open Go.RowKit
set_option linter.unusedVariables false
set_option linter.unusedSimpArgs false
theorem results_rowT {P : Program} {fn : Func} {tmps : Array Value} {t s : Tmp} {W : World} {g : Nat} {T : TypeId} {cs : Array Value} {fr : Nat × Nat} {ty : TypeId} {x : Value} (h : fn.results = #[.cell t ty, .tmp s]) (ht : tmps.getD t undef = .pointer (some ⟨g, 0, none⟩)) (hx : tmps.getD s undef = x)
    (hg : W.heap[g]? = some (.cells cs T fr)) (n : Nat) (hn : cs.size = n) (hs : ∀ W, (sizeOf ty).run P W = .ok n W) (ha : ∀ W, (isAgg ty).run P W = .ok true W) : (results fn tmps).run P W = .ok (.tuple #[.agg cs, x]) W := by
  have hv := run_loadRow (P := P) ty hg n hn hs ha
  have ht' : tmps[t]?.getD undef = .pointer (some ⟨g, 0, none⟩) := by rw [← Array.getD_eq_getD_getElem?]; exact ht
  have hx' : tmps[s]?.getD undef = x := by rw [← Array.getD_eq_getD_getElem?]; exact hx
  have hp : ∀ a : Addr, asAddr (.pointer (some a)) = pure a := fun _ => rfl
  simp [results, h, ht', hx', hp, Sem.run_bind, Sem.run_pure, hv]
theorem rowI {w : World} {g off : Nat} {cs : Array Value} {T : TypeId} {fr : Nat × Nat} {z : Int} (h : w.heap[g]? = some (.cells cs T fr)) (hz : cs[off]? = some (.int .i64 z)) : w.cell? ⟨g, off, none⟩ = some (.int .i64 z) := by
  rw [cell_of_row w g off _ _ _ h]; exact hz
theorem pts3 {p : Int} {x y z u v t : Int} {a b c : Pt} (h : ptsB p [a, b, c] = true) : ptB p a.1 a.2.1 a.2.2 = true ∧ ptB p b.1 b.2.1 b.2.2 = true ∧ ptB p c.1 c.2.1 c.2.2 = true := by
  simp [ptsB] at h
  exact h
set_option maxRecDepth 20000 in
set_option maxHeartbeats 8000000 in
theorem PappusLine_core (n : Nat) (g1 k1 g2 k2 : Nat) (a0 a1 a2 b0 b1 b2 c0 c1 c2 d0 d1 d2 e0 e1 e2 f0 f1 f2 : Int) (w : World) (hp : prB (n : Int) = true) (ha : ptB (n : Int) a0 a1 a2 = true) (hb : ptB (n : Int) b0 b1 b2 = true) (hc : ptB (n : Int) c0 c1 c2 = true) (hd : ptB (n : Int) d0 d1 d2 = true) (he : ptB (n : Int) e0 e1 e2 = true) (hf : ptB (n : Int) f0 f1 f2 = true) (hP1 : PtsAt w g1 0 3 [(a0, a1, a2), (b0, b1, b2), (c0, c1, c2)]) (hP2 : PtsAt w g2 0 3 [(d0, d1, d2), (e0, e1, e2), (f0, f1, f2)]) (h3 : threesR n 3 3 [(a0, a1, a2), (b0, b1, b2), (c0, c1, c2)] [(d0, d1, d2), (e0, e1, e2), (f0, f1, f2)] = 0) (R : Pt × Int) (hR : papC n (a0, a1, a2) (b0, b1, b2) (c0, c1, c2) (d0, d1, d2) (e0, e1, e2) (f0, f1, f2) = R) :
    Calls Try.prog 55 #[.int .i64 (n : Int), .slice (some ⟨g1, 0, none⟩) 3 k1, .slice (some ⟨g2, 0, none⟩) 3 k2] w (Ret w (.tuple #[ptV R.1.1 R.1.2.1 R.1.2.2, .int .i64 R.2])) := by
  have ia := in13' ha
  have ib := in13' hb
  have ic := in13' hc
  have id_ := in13' hd
  have ie := in13' he
  have if_ := in13' hf
  have HTc := Lib.hid (fun (W : World) (hW : Below w.heap.size w W) => threesCode_any n (some ⟨g1, 0, none⟩) (some ⟨g2, 0, none⟩) 3 k1 3 k2 [(a0, a1, a2), (b0, b1, b2), (c0, c1, c2)] [(d0, d1, d2), (e0, e1, e2), (f0, f1, f2)] W (by omega) (by omega) ⟨rfl, .inr ⟨g1, rfl, hP1.below hW⟩⟩ ⟨rfl, .inr ⟨g2, rfl, hP2.below hW⟩⟩)
  rw [h3] at HTc
  have HA1 := Lib.hid (fun (W : World) => areThree_any n a0 a1 a2 b0 b1 b2 c0 c1 c2 W hp ia ib ic)
  have HA2 := Lib.hid (fun (W : World) => areThree_any n d0 d1 d2 e0 e1 e2 f0 f1 f2 W hp id_ ie if_)
  have HL : Hid (∀ W, Calls Try.prog 101 #[.int .i64 (n : Int), ptV a0 a1 a2, ptV b0 b1 b2] W (Ret W (ptV (crsN n (a0, a1, a2) (b0, b1, b2)).1 (crsN n (a0, a1, a2) (b0, b1, b2)).2.1 (crsN n (a0, a1, a2) (b0, b1, b2)).2.2))) := Lib.hid (fun W => join_any n a0 a1 a2 b0 b1 b2 W hp ia ib)
  have HM : Hid (∀ W, Calls Try.prog 101 #[.int .i64 (n : Int), ptV d0 d1 d2, ptV e0 e1 e2] W (Ret W (ptV (crsN n (d0, d1, d2) (e0, e1, e2)).1 (crsN n (d0, d1, d2) (e0, e1, e2)).2.1 (crsN n (d0, d1, d2) (e0, e1, e2)).2.2))) := Lib.hid (fun W => join_any n d0 d1 d2 e0 e1 e2 W hp id_ ie)
  have HJ1 : Hid (∀ W, Calls Try.prog 101 #[.int .i64 (n : Int), ptV a0 a1 a2, ptV e0 e1 e2] W (Ret W (ptV (crsN n (a0, a1, a2) (e0, e1, e2)).1 (crsN n (a0, a1, a2) (e0, e1, e2)).2.1 (crsN n (a0, a1, a2) (e0, e1, e2)).2.2))) := Lib.hid (fun W => join_any n a0 a1 a2 e0 e1 e2 W hp ia ie)
  have HK1 : Hid (∀ W, Calls Try.prog 101 #[.int .i64 (n : Int), ptV b0 b1 b2, ptV d0 d1 d2] W (Ret W (ptV (crsN n (b0, b1, b2) (d0, d1, d2)).1 (crsN n (b0, b1, b2) (d0, d1, d2)).2.1 (crsN n (b0, b1, b2) (d0, d1, d2)).2.2))) := Lib.hid (fun W => join_any n b0 b1 b2 d0 d1 d2 W hp ib id_)
  have HJ2 : Hid (∀ W, Calls Try.prog 101 #[.int .i64 (n : Int), ptV a0 a1 a2, ptV f0 f1 f2] W (Ret W (ptV (crsN n (a0, a1, a2) (f0, f1, f2)).1 (crsN n (a0, a1, a2) (f0, f1, f2)).2.1 (crsN n (a0, a1, a2) (f0, f1, f2)).2.2))) := Lib.hid (fun W => join_any n a0 a1 a2 f0 f1 f2 W hp ia if_)
  have HK2 : Hid (∀ W, Calls Try.prog 101 #[.int .i64 (n : Int), ptV c0 c1 c2, ptV d0 d1 d2] W (Ret W (ptV (crsN n (c0, c1, c2) (d0, d1, d2)).1 (crsN n (c0, c1, c2) (d0, d1, d2)).2.1 (crsN n (c0, c1, c2) (d0, d1, d2)).2.2))) := Lib.hid (fun W => join_any n c0 c1 c2 d0 d1 d2 W hp ic id_)
  have iL : In13 (crsN n (a0, a1, a2) (b0, b1, b2)) := crsN_in' hp
  have iM : In13 (crsN n (d0, d1, d2) (e0, e1, e2)) := crsN_in' hp
  have iJ1 : In13 (crsN n (a0, a1, a2) (e0, e1, e2)) := crsN_in' hp
  have iK1 : In13 (crsN n (b0, b1, b2) (d0, d1, d2)) := crsN_in' hp
  have iJ2 : In13 (crsN n (a0, a1, a2) (f0, f1, f2)) := crsN_in' hp
  have iK2 : In13 (crsN n (c0, c1, c2) (d0, d1, d2)) := crsN_in' hp
  have HX : Hid (∀ W, Calls Try.prog 105 #[.int .i64 (n : Int), ptV (crsN n (a0, a1, a2) (e0, e1, e2)).1 (crsN n (a0, a1, a2) (e0, e1, e2)).2.1 (crsN n (a0, a1, a2) (e0, e1, e2)).2.2, ptV (crsN n (b0, b1, b2) (d0, d1, d2)).1 (crsN n (b0, b1, b2) (d0, d1, d2)).2.1 (crsN n (b0, b1, b2) (d0, d1, d2)).2.2] W (Ret W (ptV (crsN n (crsN n (a0, a1, a2) (e0, e1, e2)) (crsN n (b0, b1, b2) (d0, d1, d2))).1 (crsN n (crsN n (a0, a1, a2) (e0, e1, e2)) (crsN n (b0, b1, b2) (d0, d1, d2))).2.1 (crsN n (crsN n (a0, a1, a2) (e0, e1, e2)) (crsN n (b0, b1, b2) (d0, d1, d2))).2.2))) := Lib.hid (fun W => meet_any n (crsN n (a0, a1, a2) (e0, e1, e2)).1 (crsN n (a0, a1, a2) (e0, e1, e2)).2.1 (crsN n (a0, a1, a2) (e0, e1, e2)).2.2 (crsN n (b0, b1, b2) (d0, d1, d2)).1 (crsN n (b0, b1, b2) (d0, d1, d2)).2.1 (crsN n (b0, b1, b2) (d0, d1, d2)).2.2 W hp iJ1 iK1)
  have HY : Hid (∀ W, Calls Try.prog 105 #[.int .i64 (n : Int), ptV (crsN n (a0, a1, a2) (f0, f1, f2)).1 (crsN n (a0, a1, a2) (f0, f1, f2)).2.1 (crsN n (a0, a1, a2) (f0, f1, f2)).2.2, ptV (crsN n (c0, c1, c2) (d0, d1, d2)).1 (crsN n (c0, c1, c2) (d0, d1, d2)).2.1 (crsN n (c0, c1, c2) (d0, d1, d2)).2.2] W (Ret W (ptV (crsN n (crsN n (a0, a1, a2) (f0, f1, f2)) (crsN n (c0, c1, c2) (d0, d1, d2))).1 (crsN n (crsN n (a0, a1, a2) (f0, f1, f2)) (crsN n (c0, c1, c2) (d0, d1, d2))).2.1 (crsN n (crsN n (a0, a1, a2) (f0, f1, f2)) (crsN n (c0, c1, c2) (d0, d1, d2))).2.2))) := Lib.hid (fun W => meet_any n (crsN n (a0, a1, a2) (f0, f1, f2)).1 (crsN n (a0, a1, a2) (f0, f1, f2)).2.1 (crsN n (a0, a1, a2) (f0, f1, f2)).2.2 (crsN n (c0, c1, c2) (d0, d1, d2)).1 (crsN n (c0, c1, c2) (d0, d1, d2)).2.1 (crsN n (c0, c1, c2) (d0, d1, d2)).2.2 W hp iJ2 iK2)
  have iX : In13 (crsN n (crsN n (a0, a1, a2) (e0, e1, e2)) (crsN n (b0, b1, b2) (d0, d1, d2))) := crsN_in' hp
  have iY : In13 (crsN n (crsN n (a0, a1, a2) (f0, f1, f2)) (crsN n (c0, c1, c2) (d0, d1, d2))) := crsN_in' hp
  have HR : Hid (∀ W, Calls Try.prog 101 #[.int .i64 (n : Int), ptV (crsN n (crsN n (a0, a1, a2) (e0, e1, e2)) (crsN n (b0, b1, b2) (d0, d1, d2))).1 (crsN n (crsN n (a0, a1, a2) (e0, e1, e2)) (crsN n (b0, b1, b2) (d0, d1, d2))).2.1 (crsN n (crsN n (a0, a1, a2) (e0, e1, e2)) (crsN n (b0, b1, b2) (d0, d1, d2))).2.2, ptV (crsN n (crsN n (a0, a1, a2) (f0, f1, f2)) (crsN n (c0, c1, c2) (d0, d1, d2))).1 (crsN n (crsN n (a0, a1, a2) (f0, f1, f2)) (crsN n (c0, c1, c2) (d0, d1, d2))).2.1 (crsN n (crsN n (a0, a1, a2) (f0, f1, f2)) (crsN n (c0, c1, c2) (d0, d1, d2))).2.2] W (Ret W (ptV (crsN n (crsN n (crsN n (a0, a1, a2) (e0, e1, e2)) (crsN n (b0, b1, b2) (d0, d1, d2))) (crsN n (crsN n (a0, a1, a2) (f0, f1, f2)) (crsN n (c0, c1, c2) (d0, d1, d2)))).1 (crsN n (crsN n (crsN n (a0, a1, a2) (e0, e1, e2)) (crsN n (b0, b1, b2) (d0, d1, d2))) (crsN n (crsN n (a0, a1, a2) (f0, f1, f2)) (crsN n (c0, c1, c2) (d0, d1, d2)))).2.1 (crsN n (crsN n (crsN n (a0, a1, a2) (e0, e1, e2)) (crsN n (b0, b1, b2) (d0, d1, d2))) (crsN n (crsN n (a0, a1, a2) (f0, f1, f2)) (crsN n (c0, c1, c2) (d0, d1, d2)))).2.2))) := Lib.hid (fun W => join_any n (crsN n (crsN n (a0, a1, a2) (e0, e1, e2)) (crsN n (b0, b1, b2) (d0, d1, d2))).1 (crsN n (crsN n (a0, a1, a2) (e0, e1, e2)) (crsN n (b0, b1, b2) (d0, d1, d2))).2.1 (crsN n (crsN n (a0, a1, a2) (e0, e1, e2)) (crsN n (b0, b1, b2) (d0, d1, d2))).2.2 (crsN n (crsN n (a0, a1, a2) (f0, f1, f2)) (crsN n (c0, c1, c2) (d0, d1, d2))).1 (crsN n (crsN n (a0, a1, a2) (f0, f1, f2)) (crsN n (c0, c1, c2) (d0, d1, d2))).2.1 (crsN n (crsN n (a0, a1, a2) (f0, f1, f2)) (crsN n (c0, c1, c2) (d0, d1, d2))).2.2 W hp iX iY)
  have HN1 : Hid (∀ W, Below w.heap.size w W → Calls Try.prog 119 #[.int .i64 (n : Int), .slice (some ⟨g1, 0, none⟩) 3 k1, ptV (crsN n (d0, d1, d2) (e0, e1, e2)).1 (crsN n (d0, d1, d2) (e0, e1, e2)).2.1 (crsN n (d0, d1, d2) (e0, e1, e2)).2.2] W (Ret W (.int .i64 (onCount n [(a0, a1, a2), (b0, b1, b2), (c0, c1, c2)] (crsN n (d0, d1, d2) (e0, e1, e2)) : Int)))) := Lib.hid (fun W hW => onLine_any n g1 0 3 k1 [(a0, a1, a2), (b0, b1, b2), (c0, c1, c2)] _ _ _ W hp iM rfl (by omega) (by intro x hx; simp only [List.mem_cons, List.not_mem_nil, or_false] at hx; rcases hx with rfl | rfl | rfl <;> assumption) (hP1.below hW))
  have HN2 : Hid (∀ W, Below w.heap.size w W → Calls Try.prog 119 #[.int .i64 (n : Int), .slice (some ⟨g2, 0, none⟩) 3 k2, ptV (crsN n (a0, a1, a2) (b0, b1, b2)).1 (crsN n (a0, a1, a2) (b0, b1, b2)).2.1 (crsN n (a0, a1, a2) (b0, b1, b2)).2.2] W (Ret W (.int .i64 (onCount n [(d0, d1, d2), (e0, e1, e2), (f0, f1, f2)] (crsN n (a0, a1, a2) (b0, b1, b2)) : Int)))) := Lib.hid (fun W hW => onLine_any n g2 0 3 k2 [(d0, d1, d2), (e0, e1, e2), (f0, f1, f2)] _ _ _ W hp iL rfl (by omega) (by intro x hx; simp only [List.mem_cons, List.not_mem_nil, or_false] at hx; rcases hx with rfl | rfl | rfl <;> assumption) (hP2.below hW))
  have F1 := Lib.hid (fun (h : threeB n (a0, a1, a2) (b0, b1, b2) (c0, c1, c2) = false) => hR.symm.trans (papC_f1 (d0, d1, d2) (e0, e1, e2) (f0, f1, f2) h))
  have F2 := Lib.hid (fun (h : threeB n (d0, d1, d2) (e0, e1, e2) (f0, f1, f2) = false) => hR.symm.trans (papC_f2 (a0, a1, a2) (b0, b1, b2) (c0, c1, c2) h))
  have F3 := Lib.hid (fun (h : eqP (crsN n (a0, a1, a2) (b0, b1, b2)) (crsN n (d0, d1, d2) (e0, e1, e2)) = true) => hR.symm.trans (papC_on (papOn_eq h)))
  have F4 := Lib.hid (fun (h : 0 < onCount n [(a0, a1, a2), (b0, b1, b2), (c0, c1, c2)] (crsN n (d0, d1, d2) (e0, e1, e2))) => hR.symm.trans (papC_on (papOn_1 h)))
  have F5 := Lib.hid (fun (h : 0 < onCount n [(d0, d1, d2), (e0, e1, e2), (f0, f1, f2)] (crsN n (a0, a1, a2) (b0, b1, b2))) => hR.symm.trans (papC_on (papOn_2 h)))
  have F6 : Hid (threeB n (a0, a1, a2) (b0, b1, b2) (c0, c1, c2) = true → threeB n (d0, d1, d2) (e0, e1, e2) (f0, f1, f2) = true → onCount n [(a0, a1, a2), (b0, b1, b2), (c0, c1, c2)] (crsN n (d0, d1, d2) (e0, e1, e2)) = 0 → onCount n [(d0, d1, d2), (e0, e1, e2), (f0, f1, f2)] (crsN n (a0, a1, a2) (b0, b1, b2)) = 0 → R = ((crsN n (crsN n (crsN n (a0, a1, a2) (e0, e1, e2)) (crsN n (b0, b1, b2) (d0, d1, d2))) (crsN n (crsN n (a0, a1, a2) (f0, f1, f2)) (crsN n (c0, c1, c2) (d0, d1, d2)))), 0)) := Lib.hid (fun h1 h2 h4 h5 => hR.symm.trans (papC_good h1 h2 (papOn_0 h4 h5)))
  have HP1 := Lib.hid hP1
  have HP2 := Lib.hid hP2
  clear hR hp h3 hP1 hP2 ha hb hc hd he hf ia ib ic id_ ie if_ iL iM iJ1 iK1 iJ2 iK2 iX iY
  generalize threeB n (a0, a1, a2) (b0, b1, b2) (c0, c1, c2) = t1 at *
  generalize threeB n (d0, d1, d2) (e0, e1, e2) (f0, f1, f2) = t2 at *
  generalize onCount n [(a0, a1, a2), (b0, b1, b2), (c0, c1, c2)] (crsN n (d0, d1, d2) (e0, e1, e2)) = q1 at *
  generalize onCount n [(d0, d1, d2), (e0, e1, e2), (f0, f1, f2)] (crsN n (a0, a1, a2) (b0, b1, b2)) = q2 at *
  generalize (crsN n (crsN n (crsN n (a0, a1, a2) (e0, e1, e2)) (crsN n (b0, b1, b2) (d0, d1, d2))) (crsN n (crsN n (a0, a1, a2) (f0, f1, f2)) (crsN n (c0, c1, c2) (d0, d1, d2)))) = r at *
  generalize (crsN n (crsN n (a0, a1, a2) (e0, e1, e2)) (crsN n (b0, b1, b2) (d0, d1, d2))) = tX at *
  generalize (crsN n (crsN n (a0, a1, a2) (f0, f1, f2)) (crsN n (c0, c1, c2) (d0, d1, d2))) = tY at *
  generalize (crsN n (a0, a1, a2) (b0, b1, b2)) = tL at *
  generalize (crsN n (d0, d1, d2) (e0, e1, e2)) = tM at *
  generalize (crsN n (a0, a1, a2) (e0, e1, e2)) = tJ1 at *
  generalize (crsN n (b0, b1, b2) (d0, d1, d2)) = tK1 at *
  generalize (crsN n (a0, a1, a2) (f0, f1, f2)) = tJ2 at *
  generalize (crsN n (c0, c1, c2) (d0, d1, d2)) = tK2 at *
  obtain ⟨R0, R1, R2⟩ := r
  obtain ⟨X0, X1, X2⟩ := tX
  obtain ⟨Y0, Y1, Y2⟩ := tY
  obtain ⟨L0, L1, L2⟩ := tL
  obtain ⟨M0, M1, M2⟩ := tM
  obtain ⟨J10, J11, J12⟩ := tJ1
  obtain ⟨K10, K11, K12⟩ := tK1
  obtain ⟨J20, J21, J22⟩ := tJ2
  obtain ⟨K20, K21, K22⟩ := tK2
  dsimp only at *
  go_enter Try.func55, Try.ntmps55
  go_wp2_with (go_at_call 118; (with_reducible refine (HTc.out _ (bal (Below.refl _ _) _)).mono ?_); rintro e w1_ ⟨rfl, hb1⟩; obtain ⟨hcb1, hfb1, hlb1⟩ := bcell hb1; have hsz1 := hb1.size; (try simp at hsz1); have HB1 := Lib.hid hb1; clear hb1; (try (have hl01 : w.heap.size < w1_.heap.size := by omega)))
  have HBs := Lib.hid (show Below w.heap.size w w1_ from (by repeat (first | exact Below.refl _ _ | refine bset ?_ _ _ (by omega) _ | refine bal ?_ _ | refine bdrN ?_ _ | refine bdr ?_ | refine below_tr' ?_ HB1.out)))
  have kr : w1_.heap[w.heap.size]? = some (.cells #[.int .i64 0, .int .i64 0, .int .i64 0] 24 (0, 0)) := by rw [HB1.out.block _ (by simp)]; exact heap_alloc_new _ _
  have lr := (Array.getElem?_eq_some_iff.1 kr).1
  have P1 := Lib.hid (HP1.out.below HBs.out)
  have P2 := Lib.hid (HP2.out.below HBs.out)
  clear hcb1 hfb1 hlb1 HB1 HTc
  refine region_boxes [⟨18, 24, 9, 23, #[.int .i64 0, .int .i64 0, .int .i64 0], #[.int .i64 a0, .int .i64 a1, .int .i64 a2]⟩, ⟨19, 25, 10, 23, #[.int .i64 0, .int .i64 0, .int .i64 0], #[.int .i64 b0, .int .i64 b1, .int .i64 b2]⟩, ⟨20, 26, 11, 23, #[.int .i64 0, .int .i64 0, .int .i64 0], #[.int .i64 c0, .int .i64 c1, .int .i64 c2]⟩, ⟨21, 27, 12, 23, #[.int .i64 0, .int .i64 0, .int .i64 0], #[.int .i64 d0, .int .i64 d1, .int .i64 d2]⟩, ⟨22, 28, 13, 23, #[.int .i64 0, .int .i64 0, .int .i64 0], #[.int .i64 e0, .int .i64 e1, .int .i64 e2]⟩, ⟨23, 29, 14, 23, #[.int .i64 0, .int .i64 0, .int .i64 0], #[.int .i64 f0, .int .i64 f1, .int .i64 f2]⟩] [(27, .slice (some ⟨g1, 0, none⟩) 3 k1), (28, .pointer (some ⟨g1, 0, none⟩)), (29, ptV a0 a1 a2), (30, .slice (some ⟨g1, 0, none⟩) 3 k1), (31, .pointer (some ⟨g1, 3, none⟩)), (32, ptV b0 b1 b2), (33, .slice (some ⟨g1, 0, none⟩) 3 k1), (34, .pointer (some ⟨g1, 6, none⟩)), (35, ptV c0 c1 c2), (36, .slice (some ⟨g2, 0, none⟩) 3 k2), (37, .pointer (some ⟨g2, 0, none⟩)), (38, ptV d0 d1 d2), (39, .slice (some ⟨g2, 0, none⟩) 3 k2), (40, .pointer (some ⟨g2, 3, none⟩)), (41, ptV e0 e1 e2), (42, .slice (some ⟨g2, 0, none⟩) 3 k2), (43, .pointer (some ⟨g2, 6, none⟩)), (44, ptV f0 f1 f2)] (by kernel_rfl) (by kernel_rfl) (by kernel_rfl) (fun aE hpe => ?_)
  simp only [puts, Act.put, List.setIfInBounds_toArray, List.set_cons_zero, List.set_cons_succ] at hpe
  subst hpe
  refine ⟨⟨⟨?_, ?_⟩, ⟨?_, ?_⟩, ⟨?_, ?_⟩, ⟨?_, ?_⟩, ⟨?_, ?_⟩, ⟨?_, ?_⟩, trivial⟩, ⟨.inr ?_, .inr ?_, .inr ?_, .inr ?_, .inr ?_, .inr ?_, .inr ?_, .inr ?_, .inr ?_, .inr ?_, .inr ?_, .inr ?_, .inr ?_, .inr ?_, .inr ?_, .inr ?_, .inr ?_, .inr ?_, .inl rfl, .inl rfl, .inl rfl, .inl rfl, .inl rfl, .inl rfl, .inl rfl, .inl rfl, .inl rfl, .inl rfl, .inl rfl, .inl rfl, trivial⟩, ?_⟩
  · intro o ho ρ W
    obtain rfl : _ = o := Option.some.inj ho
    simp [execOp, go_sem]
  · intro o ho ρ W g hv hp hg
    obtain rfl : _ = o := Option.some.inj ho
    exact run_store_row (U := #[.int .i64 a0, .int .i64 a1, .int .i64 a2]) 23 (.tmp 9) (.tmp 29) rfl hp (hv 29 (by simp [readsOf, Op.operands]) (by show (29 : Nat) ≠ 9; decide)) hg rfl Try.sizeOf23 (by simp [Value.oneCell'])
  · intro o ho ρ W
    obtain rfl : _ = o := Option.some.inj ho
    simp [execOp, go_sem]
  · intro o ho ρ W g hv hp hg
    obtain rfl : _ = o := Option.some.inj ho
    exact run_store_row (U := #[.int .i64 b0, .int .i64 b1, .int .i64 b2]) 23 (.tmp 10) (.tmp 32) rfl hp (hv 32 (by simp [readsOf, Op.operands]) (by show (32 : Nat) ≠ 10; decide)) hg rfl Try.sizeOf23 (by simp [Value.oneCell'])
  · intro o ho ρ W
    obtain rfl : _ = o := Option.some.inj ho
    simp [execOp, go_sem]
  · intro o ho ρ W g hv hp hg
    obtain rfl : _ = o := Option.some.inj ho
    exact run_store_row (U := #[.int .i64 c0, .int .i64 c1, .int .i64 c2]) 23 (.tmp 11) (.tmp 35) rfl hp (hv 35 (by simp [readsOf, Op.operands]) (by show (35 : Nat) ≠ 11; decide)) hg rfl Try.sizeOf23 (by simp [Value.oneCell'])
  · intro o ho ρ W
    obtain rfl : _ = o := Option.some.inj ho
    simp [execOp, go_sem]
  · intro o ho ρ W g hv hp hg
    obtain rfl : _ = o := Option.some.inj ho
    exact run_store_row (U := #[.int .i64 d0, .int .i64 d1, .int .i64 d2]) 23 (.tmp 12) (.tmp 38) rfl hp (hv 38 (by simp [readsOf, Op.operands]) (by show (38 : Nat) ≠ 12; decide)) hg rfl Try.sizeOf23 (by simp [Value.oneCell'])
  · intro o ho ρ W
    obtain rfl : _ = o := Option.some.inj ho
    simp [execOp, go_sem]
  · intro o ho ρ W g hv hp hg
    obtain rfl : _ = o := Option.some.inj ho
    exact run_store_row (U := #[.int .i64 e0, .int .i64 e1, .int .i64 e2]) 23 (.tmp 13) (.tmp 41) rfl hp (hv 41 (by simp [readsOf, Op.operands]) (by show (41 : Nat) ≠ 13; decide)) hg rfl Try.sizeOf23 (by simp [Value.oneCell'])
  · intro o ho ρ W
    obtain rfl : _ = o := Option.some.inj ho
    simp [execOp, go_sem]
  · intro o ho ρ W g hv hp hg
    obtain rfl : _ = o := Option.some.inj ho
    exact run_store_row (U := #[.int .i64 f0, .int .i64 f1, .int .i64 f2]) 23 (.tmp 14) (.tmp 44) rfl hp (hv 44 (by simp [readsOf, Op.operands]) (by show (44 : Nat) ≠ 14; decide)) hg rfl Try.sizeOf23 (by simp [Value.oneCell'])
  · exact CalmG.mk 27 (.slice (some ⟨g1, 0, none⟩) 3 k1) rfl rfl rfl (fun W hW => calm_move (.tmp 1) rfl rfl)
  · exact CalmG.mk 28 (.pointer (some ⟨g1, 0, none⟩)) rfl rfl rfl (fun W hW => calm_run (by simp [execOp, Act.eval, go_sem]))
  · exact CalmG.mk 29 (ptV a0 a1 a2) rfl rfl rfl (fun W hW => calm_loadPt 23 (.tmp 28) rfl rfl (cell_below hW (P1.out 0 (by omega)).1) (cell_below hW (P1.out 0 (by omega)).2.1) (cell_below hW (P1.out 0 (by omega)).2.2) Try.sizeOf23 Try.isAgg23)
  · exact CalmG.mk 30 (.slice (some ⟨g1, 0, none⟩) 3 k1) rfl rfl rfl (fun W hW => calm_move (.tmp 1) rfl rfl)
  · exact CalmG.mk 31 (.pointer (some ⟨g1, 3, none⟩)) rfl rfl rfl (fun W hW => calm_run (by simp [execOp, Act.eval, go_sem]))
  · exact CalmG.mk 32 (ptV b0 b1 b2) rfl rfl rfl (fun W hW => calm_loadPt 23 (.tmp 31) rfl rfl (cell_below hW (P1.out 1 (by omega)).1) (cell_below hW (P1.out 1 (by omega)).2.1) (cell_below hW (P1.out 1 (by omega)).2.2) Try.sizeOf23 Try.isAgg23)
  · exact CalmG.mk 33 (.slice (some ⟨g1, 0, none⟩) 3 k1) rfl rfl rfl (fun W hW => calm_move (.tmp 1) rfl rfl)
  · exact CalmG.mk 34 (.pointer (some ⟨g1, 6, none⟩)) rfl rfl rfl (fun W hW => calm_run (by simp [execOp, Act.eval, go_sem]))
  · exact CalmG.mk 35 (ptV c0 c1 c2) rfl rfl rfl (fun W hW => calm_loadPt 23 (.tmp 34) rfl rfl (cell_below hW (P1.out 2 (by omega)).1) (cell_below hW (P1.out 2 (by omega)).2.1) (cell_below hW (P1.out 2 (by omega)).2.2) Try.sizeOf23 Try.isAgg23)
  · exact CalmG.mk 36 (.slice (some ⟨g2, 0, none⟩) 3 k2) rfl rfl rfl (fun W hW => calm_move (.tmp 2) rfl rfl)
  · exact CalmG.mk 37 (.pointer (some ⟨g2, 0, none⟩)) rfl rfl rfl (fun W hW => calm_run (by simp [execOp, Act.eval, go_sem]))
  · exact CalmG.mk 38 (ptV d0 d1 d2) rfl rfl rfl (fun W hW => calm_loadPt 23 (.tmp 37) rfl rfl (cell_below hW (P2.out 0 (by omega)).1) (cell_below hW (P2.out 0 (by omega)).2.1) (cell_below hW (P2.out 0 (by omega)).2.2) Try.sizeOf23 Try.isAgg23)
  · exact CalmG.mk 39 (.slice (some ⟨g2, 0, none⟩) 3 k2) rfl rfl rfl (fun W hW => calm_move (.tmp 2) rfl rfl)
  · exact CalmG.mk 40 (.pointer (some ⟨g2, 3, none⟩)) rfl rfl rfl (fun W hW => calm_run (by simp [execOp, Act.eval, go_sem]))
  · exact CalmG.mk 41 (ptV e0 e1 e2) rfl rfl rfl (fun W hW => calm_loadPt 23 (.tmp 40) rfl rfl (cell_below hW (P2.out 1 (by omega)).1) (cell_below hW (P2.out 1 (by omega)).2.1) (cell_below hW (P2.out 1 (by omega)).2.2) Try.sizeOf23 Try.isAgg23)
  · exact CalmG.mk 42 (.slice (some ⟨g2, 0, none⟩) 3 k2) rfl rfl rfl (fun W hW => calm_move (.tmp 2) rfl rfl)
  · exact CalmG.mk 43 (.pointer (some ⟨g2, 6, none⟩)) rfl rfl rfl (fun W hW => calm_run (by simp [execOp, Act.eval, go_sem]))
  · exact CalmG.mk 44 (ptV f0 f1 f2) rfl rfl rfl (fun W hW => calm_loadPt 23 (.tmp 43) rfl rfl (cell_below hW (P2.out 2 (by omega)).1) (cell_below hW (P2.out 2 (by omega)).2.1) (cell_below hW (P2.out 2 (by omega)).2.2) Try.sizeOf23 Try.isAgg23)
  intro g W4 hW hbx _
  obtain ⟨pg0, pk0⟩ := hbx _ (.head _)
  dsimp only at pg0 pk0
  obtain ⟨pg1, pk1⟩ := hbx _ (.tail _ (.head _))
  dsimp only at pg1 pk1
  obtain ⟨pg2, pk2⟩ := hbx _ (.tail _ (.tail _ (.head _)))
  dsimp only at pg2 pk2
  obtain ⟨pg3, pk3⟩ := hbx _ (.tail _ (.tail _ (.tail _ (.head _))))
  dsimp only at pg3 pk3
  obtain ⟨pg4, pk4⟩ := hbx _ (.tail _ (.tail _ (.tail _ (.tail _ (.head _)))))
  dsimp only at pg4 pk4
  obtain ⟨pg5, pk5⟩ := hbx _ (.tail _ (.tail _ (.tail _ (.tail _ (.tail _ (.head _))))))
  dsimp only at pg5 pk5
  simp only [List.map_cons, List.map_nil, puts, Act.put, List.setIfInBounds_toArray, List.set_cons_zero, List.set_cons_succ]
  clear hbx
  generalize g 9 = pb0 at *
  generalize g 10 = pb1 at *
  generalize g 11 = pb2 at *
  generalize g 12 = pb3 at *
  generalize g 13 = pb4 at *
  generalize g 14 = pb5 at *
  have HB4 := Lib.hid (low_tr' HBs.out hW HBs.out.size)
  have kr4 := (hW.block _ lr).trans kr
  have lr4 := (Array.getElem?_eq_some_iff.1 kr4).1
  have pl0 := (Array.getElem?_eq_some_iff.1 pk0).1
  have pl1 := (Array.getElem?_eq_some_iff.1 pk1).1
  have pl2 := (Array.getElem?_eq_some_iff.1 pk2).1
  have pl3 := (Array.getElem?_eq_some_iff.1 pk3).1
  have pl4 := (Array.getElem?_eq_some_iff.1 pk4).1
  have pl5 := (Array.getElem?_eq_some_iff.1 pk5).1
  clear kr lr hW P1 P2 HBs pg0 pg1 pg2 pg3 pg4 pg5
  have KR4 := Lib.hid kr4
  have PK0 := Lib.hid pk0
  have PK1 := Lib.hid pk1
  have PK2 := Lib.hid pk2
  have PK3 := Lib.hid pk3
  have PK4 := Lib.hid pk4
  have PK5 := Lib.hid pk5
  clear kr4 pk0 pk1 pk2 pk3 pk4 pk5
  have xd0 := rowI (off := 0) (z := d0) PK3.out rfl
  have xd1 := rowI (off := 1) (z := d1) PK3.out rfl
  have xd2 := rowI (off := 2) (z := d2) PK3.out rfl
  have xe0 := rowI (off := 0) (z := e0) PK4.out rfl
  have xe1 := rowI (off := 1) (z := e1) PK4.out rfl
  have xe2 := rowI (off := 2) (z := e2) PK4.out rfl
  have xf0 := rowI (off := 0) (z := f0) PK5.out rfl
  have xf1 := rowI (off := 1) (z := f1) PK5.out rfl
  have xf2 := rowI (off := 2) (z := f2) PK5.out rfl
  have tok1 : True := trivial
  cases t1 with
  | false =>
    go_wp2_with (first
      | (refine wpList_load_row _ rfl 23 _ rfl (g := pb0) (T := 23) (cs := #[.int .i64 a0, .int .i64 a1, .int .i64 a2]) (fr := (0, 0)) rfl (by first | exact PK0.out | exact ((HB5.out.block _ pl0).trans PK0.out)) 3 rfl Try.sizeOf23 Try.isAgg23 ?_)
      | (refine wpList_load_row _ rfl 23 _ rfl (g := pb1) (T := 23) (cs := #[.int .i64 b0, .int .i64 b1, .int .i64 b2]) (fr := (0, 0)) rfl (by first | exact PK1.out | exact ((HB5.out.block _ pl1).trans PK1.out)) 3 rfl Try.sizeOf23 Try.isAgg23 ?_)
      | (refine wpList_load_row _ rfl 23 _ rfl (g := pb2) (T := 23) (cs := #[.int .i64 c0, .int .i64 c1, .int .i64 c2]) (fr := (0, 0)) rfl (by first | exact PK2.out | exact ((HB5.out.block _ pl2).trans PK2.out)) 3 rfl Try.sizeOf23 Try.isAgg23 ?_)
      | (refine wpList_load_row _ rfl 23 _ rfl (g := pb3) (T := 23) (cs := #[.int .i64 d0, .int .i64 d1, .int .i64 d2]) (fr := (0, 0)) rfl (by first | exact PK3.out | exact ((HB5.out.block _ pl3).trans PK3.out)) 3 rfl Try.sizeOf23 Try.isAgg23 ?_)
      | (refine wpList_load_row _ rfl 23 _ rfl (g := pb4) (T := 23) (cs := #[.int .i64 e0, .int .i64 e1, .int .i64 e2]) (fr := (0, 0)) rfl (by first | exact PK4.out | exact ((HB5.out.block _ pl4).trans PK4.out)) 3 rfl Try.sizeOf23 Try.isAgg23 ?_)
      | (refine wpList_load_row _ rfl 23 _ rfl (g := pb5) (T := 23) (cs := #[.int .i64 f0, .int .i64 f1, .int .i64 f2]) (fr := (0, 0)) rfl (by first | exact PK5.out | exact ((HB5.out.block _ pl5).trans PK5.out)) 3 rfl Try.sizeOf23 Try.isAgg23 ?_)
      | (have _t := tok1; (go_at_call 100; (with_reducible refine (HA1.out _).mono ?_); rintro e w5_ ⟨rfl, hb5⟩; obtain ⟨hcb5, hfb5, hlb5⟩ := bcell hb5; have hsz5 := hb5.size; (try simp at hsz5); have HB5 := Lib.hid hb5; clear hb5); clear tok1)
      | (refine wpList_build _ rfl 24 _ rfl #[.int .i64 0, .int .i64 0, .int .i64 0] (by kernel_rfl) ?_)
      | (refine wpList_store_row _ rfl 24 _ _ rfl rfl (g := w.heap.size) (T := 24) (cs := #[.int .i64 0, .int .i64 0, .int .i64 0]) (U := #[.int .i64 0, .int .i64 0, .int .i64 0]) rfl rfl (by first | exact KR4.out | exact ((HB5.out.block _ lr4).trans KR4.out)) rfl Try.sizeOf24 (by simp [Value.oneCell']) ?_))
    obtain rfl := F1.out (by first | rfl | trivial)
    exact bodyPost_ret (v := .tuple #[ptV 0 0 0, .int .i64 5]) (results_rowT Try.results55 rfl rfl (setRow_heap _ _ #[.int .i64 0, .int .i64 0, .int .i64 0] _ _ _ (((HB5.out.block _ lr4).trans KR4.out))) 3 rfl Try.sizeOf24 Try.isAgg24) rfl ⟨rfl, below_setRowN (low_tr' HB4.out HB5.out HB4.out.size) (Nat.le_refl _) _⟩
  | true =>
    cases t2 with
    | false =>
      go_wp2_with (first
        | (refine wpList_load_row _ rfl 23 _ rfl (g := pb0) (T := 23) (cs := #[.int .i64 a0, .int .i64 a1, .int .i64 a2]) (fr := (0, 0)) rfl (by first | exact PK0.out | exact ((HB5.out.block _ pl0).trans PK0.out) | exact ((HB6.out.block _ (Array.getElem?_eq_some_iff.1 ((HB5.out.block _ pl0).trans PK0.out)).1).trans ((HB5.out.block _ pl0).trans PK0.out))) 3 rfl Try.sizeOf23 Try.isAgg23 ?_)
        | (refine wpList_load_row _ rfl 23 _ rfl (g := pb1) (T := 23) (cs := #[.int .i64 b0, .int .i64 b1, .int .i64 b2]) (fr := (0, 0)) rfl (by first | exact PK1.out | exact ((HB5.out.block _ pl1).trans PK1.out) | exact ((HB6.out.block _ (Array.getElem?_eq_some_iff.1 ((HB5.out.block _ pl1).trans PK1.out)).1).trans ((HB5.out.block _ pl1).trans PK1.out))) 3 rfl Try.sizeOf23 Try.isAgg23 ?_)
        | (refine wpList_load_row _ rfl 23 _ rfl (g := pb2) (T := 23) (cs := #[.int .i64 c0, .int .i64 c1, .int .i64 c2]) (fr := (0, 0)) rfl (by first | exact PK2.out | exact ((HB5.out.block _ pl2).trans PK2.out) | exact ((HB6.out.block _ (Array.getElem?_eq_some_iff.1 ((HB5.out.block _ pl2).trans PK2.out)).1).trans ((HB5.out.block _ pl2).trans PK2.out))) 3 rfl Try.sizeOf23 Try.isAgg23 ?_)
        | (refine wpList_load_row _ rfl 23 _ rfl (g := pb3) (T := 23) (cs := #[.int .i64 d0, .int .i64 d1, .int .i64 d2]) (fr := (0, 0)) rfl (by first | exact PK3.out | exact ((HB5.out.block _ pl3).trans PK3.out) | exact ((HB6.out.block _ (Array.getElem?_eq_some_iff.1 ((HB5.out.block _ pl3).trans PK3.out)).1).trans ((HB5.out.block _ pl3).trans PK3.out))) 3 rfl Try.sizeOf23 Try.isAgg23 ?_)
        | (refine wpList_load_row _ rfl 23 _ rfl (g := pb4) (T := 23) (cs := #[.int .i64 e0, .int .i64 e1, .int .i64 e2]) (fr := (0, 0)) rfl (by first | exact PK4.out | exact ((HB5.out.block _ pl4).trans PK4.out) | exact ((HB6.out.block _ (Array.getElem?_eq_some_iff.1 ((HB5.out.block _ pl4).trans PK4.out)).1).trans ((HB5.out.block _ pl4).trans PK4.out))) 3 rfl Try.sizeOf23 Try.isAgg23 ?_)
        | (refine wpList_load_row _ rfl 23 _ rfl (g := pb5) (T := 23) (cs := #[.int .i64 f0, .int .i64 f1, .int .i64 f2]) (fr := (0, 0)) rfl (by first | exact PK5.out | exact ((HB5.out.block _ pl5).trans PK5.out) | exact ((HB6.out.block _ (Array.getElem?_eq_some_iff.1 ((HB5.out.block _ pl5).trans PK5.out)).1).trans ((HB5.out.block _ pl5).trans PK5.out))) 3 rfl Try.sizeOf23 Try.isAgg23 ?_)
        | (have _t := tok1; (go_at_call 100; (with_reducible refine (HA1.out _).mono ?_); rintro e w5_ ⟨rfl, hb5⟩; obtain ⟨hcb5, hfb5, hlb5⟩ := bcell hb5; have hsz5 := hb5.size; (try simp at hsz5); have HB5 := Lib.hid hb5; clear hb5); clear tok1)
        | (go_at_call 100; (with_reducible refine (HA2.out _).mono ?_); rintro e w6_ ⟨rfl, hb6⟩; obtain ⟨hcb6, hfb6, hlb6⟩ := bcell hb6; have hsz6 := hb6.size; (try simp at hsz6); have HB6 := Lib.hid hb6; clear hb6)
        | (refine wpList_build _ rfl 24 _ rfl #[.int .i64 0, .int .i64 0, .int .i64 0] (by kernel_rfl) ?_)
        | (refine wpList_store_row _ rfl 24 _ _ rfl rfl (g := w.heap.size) (T := 24) (cs := #[.int .i64 0, .int .i64 0, .int .i64 0]) (U := #[.int .i64 0, .int .i64 0, .int .i64 0]) rfl rfl (by first | exact KR4.out | exact ((HB5.out.block _ lr4).trans KR4.out) | exact ((HB6.out.block _ (Array.getElem?_eq_some_iff.1 ((HB5.out.block _ lr4).trans KR4.out)).1).trans ((HB5.out.block _ lr4).trans KR4.out))) rfl Try.sizeOf24 (by simp [Value.oneCell']) ?_))
      obtain rfl := F2.out (by first | rfl | trivial)
      exact bodyPost_ret (v := .tuple #[ptV 0 0 0, .int .i64 5]) (results_rowT Try.results55 rfl rfl (setRow_heap _ _ #[.int .i64 0, .int .i64 0, .int .i64 0] _ _ _ (((HB6.out.block _ (Array.getElem?_eq_some_iff.1 ((HB5.out.block _ lr4).trans KR4.out)).1).trans ((HB5.out.block _ lr4).trans KR4.out)))) 3 rfl Try.sizeOf24 Try.isAgg24) rfl ⟨rfl, below_setRowN (low_tr' (low_tr' HB4.out HB5.out HB4.out.size) HB6.out (low_tr' HB4.out HB5.out HB4.out.size).size) (Nat.le_refl _) _⟩
    | true =>
      go_wp2_with (first
        | (refine wpList_load_row _ rfl 23 _ rfl (g := pb0) (T := 23) (cs := #[.int .i64 a0, .int .i64 a1, .int .i64 a2]) (fr := (0, 0)) rfl (by first | exact PK0.out | exact ((HB5.out.block _ pl0).trans PK0.out) | exact ((HB6.out.block _ (Array.getElem?_eq_some_iff.1 ((HB5.out.block _ pl0).trans PK0.out)).1).trans ((HB5.out.block _ pl0).trans PK0.out))) 3 rfl Try.sizeOf23 Try.isAgg23 ?_)
        | (refine wpList_load_row _ rfl 23 _ rfl (g := pb1) (T := 23) (cs := #[.int .i64 b0, .int .i64 b1, .int .i64 b2]) (fr := (0, 0)) rfl (by first | exact PK1.out | exact ((HB5.out.block _ pl1).trans PK1.out) | exact ((HB6.out.block _ (Array.getElem?_eq_some_iff.1 ((HB5.out.block _ pl1).trans PK1.out)).1).trans ((HB5.out.block _ pl1).trans PK1.out))) 3 rfl Try.sizeOf23 Try.isAgg23 ?_)
        | (refine wpList_load_row _ rfl 23 _ rfl (g := pb2) (T := 23) (cs := #[.int .i64 c0, .int .i64 c1, .int .i64 c2]) (fr := (0, 0)) rfl (by first | exact PK2.out | exact ((HB5.out.block _ pl2).trans PK2.out) | exact ((HB6.out.block _ (Array.getElem?_eq_some_iff.1 ((HB5.out.block _ pl2).trans PK2.out)).1).trans ((HB5.out.block _ pl2).trans PK2.out))) 3 rfl Try.sizeOf23 Try.isAgg23 ?_)
        | (refine wpList_load_row _ rfl 23 _ rfl (g := pb3) (T := 23) (cs := #[.int .i64 d0, .int .i64 d1, .int .i64 d2]) (fr := (0, 0)) rfl (by first | exact PK3.out | exact ((HB5.out.block _ pl3).trans PK3.out) | exact ((HB6.out.block _ (Array.getElem?_eq_some_iff.1 ((HB5.out.block _ pl3).trans PK3.out)).1).trans ((HB5.out.block _ pl3).trans PK3.out))) 3 rfl Try.sizeOf23 Try.isAgg23 ?_)
        | (refine wpList_load_row _ rfl 23 _ rfl (g := pb4) (T := 23) (cs := #[.int .i64 e0, .int .i64 e1, .int .i64 e2]) (fr := (0, 0)) rfl (by first | exact PK4.out | exact ((HB5.out.block _ pl4).trans PK4.out) | exact ((HB6.out.block _ (Array.getElem?_eq_some_iff.1 ((HB5.out.block _ pl4).trans PK4.out)).1).trans ((HB5.out.block _ pl4).trans PK4.out))) 3 rfl Try.sizeOf23 Try.isAgg23 ?_)
        | (refine wpList_load_row _ rfl 23 _ rfl (g := pb5) (T := 23) (cs := #[.int .i64 f0, .int .i64 f1, .int .i64 f2]) (fr := (0, 0)) rfl (by first | exact PK5.out | exact ((HB5.out.block _ pl5).trans PK5.out) | exact ((HB6.out.block _ (Array.getElem?_eq_some_iff.1 ((HB5.out.block _ pl5).trans PK5.out)).1).trans ((HB5.out.block _ pl5).trans PK5.out))) 3 rfl Try.sizeOf23 Try.isAgg23 ?_)
        | (have _t := tok1; (go_at_call 100; (with_reducible refine (HA1.out _).mono ?_); rintro e w5_ ⟨rfl, hb5⟩; obtain ⟨hcb5, hfb5, hlb5⟩ := bcell hb5; have hsz5 := hb5.size; (try simp at hsz5); have HB5 := Lib.hid hb5; clear hb5); clear tok1)
        | (go_at_call 100; (with_reducible refine (HA2.out _).mono ?_); rintro e w6_ ⟨rfl, hb6⟩; obtain ⟨hcb6, hfb6, hlb6⟩ := bcell hb6; have hsz6 := hb6.size; (try simp at hsz6); have HB6 := Lib.hid hb6; clear hb6))
      have HB7 := Lib.hid (low_tr' (low_tr' HB4.out HB5.out HB4.out.size) HB6.out (low_tr' HB4.out HB5.out HB4.out.size).size)
      have qk0 := ((HB6.out.block _ (Array.getElem?_eq_some_iff.1 ((HB5.out.block _ pl0).trans PK0.out)).1).trans ((HB5.out.block _ pl0).trans PK0.out))
      have ql0 := (Array.getElem?_eq_some_iff.1 qk0).1
      have qk1 := ((HB6.out.block _ (Array.getElem?_eq_some_iff.1 ((HB5.out.block _ pl1).trans PK1.out)).1).trans ((HB5.out.block _ pl1).trans PK1.out))
      have ql1 := (Array.getElem?_eq_some_iff.1 qk1).1
      have qk2 := ((HB6.out.block _ (Array.getElem?_eq_some_iff.1 ((HB5.out.block _ pl2).trans PK2.out)).1).trans ((HB5.out.block _ pl2).trans PK2.out))
      have ql2 := (Array.getElem?_eq_some_iff.1 qk2).1
      have qk3 := ((HB6.out.block _ (Array.getElem?_eq_some_iff.1 ((HB5.out.block _ pl3).trans PK3.out)).1).trans ((HB5.out.block _ pl3).trans PK3.out))
      have ql3 := (Array.getElem?_eq_some_iff.1 qk3).1
      have qk4 := ((HB6.out.block _ (Array.getElem?_eq_some_iff.1 ((HB5.out.block _ pl4).trans PK4.out)).1).trans ((HB5.out.block _ pl4).trans PK4.out))
      have ql4 := (Array.getElem?_eq_some_iff.1 qk4).1
      have qk5 := ((HB6.out.block _ (Array.getElem?_eq_some_iff.1 ((HB5.out.block _ pl5).trans PK5.out)).1).trans ((HB5.out.block _ pl5).trans PK5.out))
      have ql5 := (Array.getElem?_eq_some_iff.1 qk5).1
      have kr6 := ((HB6.out.block _ (Array.getElem?_eq_some_iff.1 ((HB5.out.block _ lr4).trans KR4.out)).1).trans ((HB5.out.block _ lr4).trans KR4.out))
      have lr6 := (Array.getElem?_eq_some_iff.1 kr6).1
      clear hcb5 hfb5 hlb5 hcb6 hfb6 hlb6 HB5 HB6 HB4 KR4 lr4 HA1 HA2 F1 F2 PK0 pl0 PK1 pl1 PK2 pl2 PK3 pl3 PK4 pl4 PK5 pl5
      refine region_boxes [⟨8, 10, 15, 24, #[.int .i64 0, .int .i64 0, .int .i64 0], #[.int .i64 L0, .int .i64 L1, .int .i64 L2]⟩, ⟨9, 11, 16, 24, #[.int .i64 0, .int .i64 0, .int .i64 0], #[.int .i64 M0, .int .i64 M1, .int .i64 M2]⟩] [(60, .int .i64 (n : Int)), (61, ptV a0 a1 a2), (62, ptV b0 b1 b2), (63, ptV L0 L1 L2), (64, .int .i64 (n : Int)), (65, ptV d0 d1 d2), (66, ptV e0 e1 e2), (67, ptV M0 M1 M2)] (by kernel_rfl) (by kernel_rfl) (by kernel_rfl) (fun aE hpe => ?_)
      simp only [puts, Act.put, List.setIfInBounds_toArray, List.set_cons_zero, List.set_cons_succ] at hpe
      subst hpe
      refine ⟨⟨⟨?_, ?_⟩, ⟨?_, ?_⟩, trivial⟩, ⟨.inr ?_, .inr ?_, .inr ?_, .inr ?_, .inr ?_, .inr ?_, .inr ?_, .inr ?_, .inl rfl, .inl rfl, .inl rfl, .inl rfl, trivial⟩, ?_⟩
      · intro o ho ρ W
        obtain rfl : _ = o := Option.some.inj ho
        simp [execOp, go_sem]
      · intro o ho ρ W g hv hp hg
        obtain rfl : _ = o := Option.some.inj ho
        exact run_store_row (U := #[.int .i64 L0, .int .i64 L1, .int .i64 L2]) 24 (.tmp 15) (.tmp 63) rfl hp (hv 63 (by simp [readsOf, Op.operands]) (by show (63 : Nat) ≠ 15; decide)) hg rfl Try.sizeOf24 (by simp [Value.oneCell'])
      · intro o ho ρ W
        obtain rfl : _ = o := Option.some.inj ho
        simp [execOp, go_sem]
      · intro o ho ρ W g hv hp hg
        obtain rfl : _ = o := Option.some.inj ho
        exact run_store_row (U := #[.int .i64 M0, .int .i64 M1, .int .i64 M2]) 24 (.tmp 16) (.tmp 67) rfl hp (hv 67 (by simp [readsOf, Op.operands]) (by show (67 : Nat) ≠ 16; decide)) hg rfl Try.sizeOf24 (by simp [Value.oneCell'])
      · exact CalmG.mk 60 (.int .i64 (n : Int)) rfl rfl rfl (fun W hW => calm_move (.tmp 0) rfl rfl)
      · exact CalmG.mk 61 (ptV a0 a1 a2) rfl rfl rfl (fun W hW => calm_load (cs := #[.int .i64 a0, .int .i64 a1, .int .i64 a2]) (g := pb0) (T := 23) (fr := (0, 0)) 23 (.tmp 9) rfl rfl (by rw [hW.block _ ql0]; exact qk0) 3 rfl Try.sizeOf23 Try.isAgg23)
      · exact CalmG.mk 62 (ptV b0 b1 b2) rfl rfl rfl (fun W hW => calm_load (cs := #[.int .i64 b0, .int .i64 b1, .int .i64 b2]) (g := pb1) (T := 23) (fr := (0, 0)) 23 (.tmp 10) rfl rfl (by rw [hW.block _ ql1]; exact qk1) 3 rfl Try.sizeOf23 Try.isAgg23)
      · exact CalmG.mk 63 (ptV L0 L1 L2) rfl rfl rfl (fun W hW => calm_call 101 _ #[.int .i64 (n : Int), ptV a0 a1 a2, ptV b0 b1 b2] rfl rfl rfl (by simp [Act.eval]) (Try.call101 _ _) (HL.out W))
      · exact CalmG.mk 64 (.int .i64 (n : Int)) rfl rfl rfl (fun W hW => calm_move (.tmp 0) rfl rfl)
      · exact CalmG.mk 65 (ptV d0 d1 d2) rfl rfl rfl (fun W hW => calm_load (cs := #[.int .i64 d0, .int .i64 d1, .int .i64 d2]) (g := pb3) (T := 23) (fr := (0, 0)) 23 (.tmp 12) rfl rfl (by rw [hW.block _ ql3]; exact qk3) 3 rfl Try.sizeOf23 Try.isAgg23)
      · exact CalmG.mk 66 (ptV e0 e1 e2) rfl rfl rfl (fun W hW => calm_load (cs := #[.int .i64 e0, .int .i64 e1, .int .i64 e2]) (g := pb4) (T := 23) (fr := (0, 0)) 23 (.tmp 13) rfl rfl (by rw [hW.block _ ql4]; exact qk4) 3 rfl Try.sizeOf23 Try.isAgg23)
      · exact CalmG.mk 67 (ptV M0 M1 M2) rfl rfl rfl (fun W hW => calm_call 101 _ #[.int .i64 (n : Int), ptV d0 d1 d2, ptV e0 e1 e2] rfl rfl rfl (by simp [Act.eval]) (Try.call101 _ _) (HM.out W))
      intro g W7 hW hbx _
      obtain ⟨sg0, sk0⟩ := hbx _ (.head _)
      dsimp only at sg0 sk0
      obtain ⟨sg1, sk1⟩ := hbx _ (.tail _ (.head _))
      dsimp only at sg1 sk1
      simp only [List.map_cons, List.map_nil, puts, Act.put, List.setIfInBounds_toArray, List.set_cons_zero, List.set_cons_succ]
      clear hbx
      generalize g 15 = sb0 at *
      generalize g 16 = sb1 at *
      have HBe := Lib.hid (low_tr' HB7.out hW HB7.out.size)
      have KR7 := Lib.hid ((hW.block _ lr6).trans kr6)
      have lr7 := (Array.getElem?_eq_some_iff.1 KR7.out).1
      have PK0 := Lib.hid ((hW.block _ ql0).trans qk0)
      have pl0 := (Array.getElem?_eq_some_iff.1 PK0.out).1
      have PK1 := Lib.hid ((hW.block _ ql1).trans qk1)
      have pl1 := (Array.getElem?_eq_some_iff.1 PK1.out).1
      have PK2 := Lib.hid ((hW.block _ ql2).trans qk2)
      have pl2 := (Array.getElem?_eq_some_iff.1 PK2.out).1
      have PK3 := Lib.hid ((hW.block _ ql3).trans qk3)
      have pl3 := (Array.getElem?_eq_some_iff.1 PK3.out).1
      have PK4 := Lib.hid ((hW.block _ ql4).trans qk4)
      have pl4 := (Array.getElem?_eq_some_iff.1 PK4.out).1
      have PK5 := Lib.hid ((hW.block _ ql5).trans qk5)
      have pl5 := (Array.getElem?_eq_some_iff.1 PK5.out).1
      have SK0 := Lib.hid sk0
      have sl0 := (Array.getElem?_eq_some_iff.1 sk0).1
      have SK1 := Lib.hid sk1
      have sl1 := (Array.getElem?_eq_some_iff.1 sk1).1
      clear hW kr6 lr6 HB7 sg0 sg1 sk0 sk1 HL HM qk0 ql0 qk1 ql1 qk2 ql2 qk3 ql3 qk4 ql4 qk5 ql5
      have xM0 := rowI (off := 0) (z := M0) SK1.out rfl
      have xM1 := rowI (off := 1) (z := M1) SK1.out rfl
      have xM2 := rowI (off := 2) (z := M2) SK1.out rfl
      have xL0 := rowI (off := 0) (z := L0) SK0.out rfl
      have xL1 := rowI (off := 1) (z := L1) SK0.out rfl
      have xL2 := rowI (off := 2) (z := L2) SK0.out rfl
      cases he : eqP (L0, L1, L2) (M0, M1, M2) with
      | true =>
        go_wp2_with (first
          | (refine wpList_load_row _ rfl 24 _ rfl (g := sb0) (T := 24) (cs := #[.int .i64 L0, .int .i64 L1, .int .i64 L2]) (fr := (0, 0)) rfl (by first | exact SK0.out) 3 rfl Try.sizeOf24 Try.isAgg24 ?_)
          | (refine wpList_load_row _ rfl 24 _ rfl (g := sb1) (T := 24) (cs := #[.int .i64 M0, .int .i64 M1, .int .i64 M2]) (fr := (0, 0)) rfl (by first | exact SK1.out) 3 rfl Try.sizeOf24 Try.isAgg24 ?_)
          | (refine wpList_build _ rfl 24 _ rfl #[.int .i64 0, .int .i64 0, .int .i64 0] (by kernel_rfl) ?_)
          | (refine wpList_store_row _ rfl 24 _ _ rfl rfl (g := w.heap.size) (T := 24) (cs := #[.int .i64 0, .int .i64 0, .int .i64 0]) (U := #[.int .i64 0, .int .i64 0, .int .i64 0]) rfl rfl (by first | exact KR7.out) rfl Try.sizeOf24 (by simp [Value.oneCell']) ?_))
        obtain rfl := F3.out he
        exact bodyPost_ret (v := .tuple #[ptV 0 0 0, .int .i64 5]) (results_rowT Try.results55 rfl rfl (setRow_heap _ _ #[.int .i64 0, .int .i64 0, .int .i64 0] _ _ _ (KR7.out)) 3 rfl Try.sizeOf24 Try.isAgg24) rfl ⟨rfl, below_setRowN (HBe.out) (Nat.le_refl _) _⟩
      | false =>
        clear F3
        rcases Nat.eq_zero_or_pos q1 with h1 | h1
        · subst h1
          rcases Nat.eq_zero_or_pos q2 with h2 | h2
          · subst h2
            have tok8 : True := trivial
            go_wp2_with (first
              | (refine wpList_load_row _ rfl 24 _ rfl (g := sb0) (T := 24) (cs := #[.int .i64 L0, .int .i64 L1, .int .i64 L2]) (fr := (0, 0)) rfl (by first | exact SK0.out | exact ((HB8.out.block _ sl0).trans SK0.out) | exact ((HB9.out.block _ (Array.getElem?_eq_some_iff.1 ((HB8.out.block _ sl0).trans SK0.out)).1).trans ((HB8.out.block _ sl0).trans SK0.out))) 3 rfl Try.sizeOf24 Try.isAgg24 ?_)
              | (refine wpList_load_row _ rfl 24 _ rfl (g := sb1) (T := 24) (cs := #[.int .i64 M0, .int .i64 M1, .int .i64 M2]) (fr := (0, 0)) rfl (by first | exact SK1.out | exact ((HB8.out.block _ sl1).trans SK1.out) | exact ((HB9.out.block _ (Array.getElem?_eq_some_iff.1 ((HB8.out.block _ sl1).trans SK1.out)).1).trans ((HB8.out.block _ sl1).trans SK1.out))) 3 rfl Try.sizeOf24 Try.isAgg24 ?_)
              | (have _t := tok8; (go_at_call 119; (with_reducible refine (HN1.out _ HBe.out).mono ?_); rintro e w8_ ⟨rfl, hb8⟩; obtain ⟨hcb8, hfb8, hlb8⟩ := bcell hb8; have hsz8 := hb8.size; (try simp at hsz8); have HB8 := Lib.hid hb8; clear hb8); clear tok8)
              | (go_at_call 119; (with_reducible refine (HN2.out _ (low_tr' HBe.out HB8.out HBe.out.size)).mono ?_); rintro e w9_ ⟨rfl, hb9⟩; obtain ⟨hcb9, hfb9, hlb9⟩ := bcell hb9; have hsz9 := hb9.size; (try simp at hsz9); have HB9 := Lib.hid hb9; clear hb9))
            have HBf := Lib.hid (low_tr' (low_tr' HBe.out HB8.out HBe.out.size) HB9.out (low_tr' HBe.out HB8.out HBe.out.size).size)
            have qk0 := ((HB9.out.block _ (Array.getElem?_eq_some_iff.1 ((HB8.out.block _ pl0).trans PK0.out)).1).trans ((HB8.out.block _ pl0).trans PK0.out))
            have ql0 := (Array.getElem?_eq_some_iff.1 qk0).1
            have qk1 := ((HB9.out.block _ (Array.getElem?_eq_some_iff.1 ((HB8.out.block _ pl1).trans PK1.out)).1).trans ((HB8.out.block _ pl1).trans PK1.out))
            have ql1 := (Array.getElem?_eq_some_iff.1 qk1).1
            have qk2 := ((HB9.out.block _ (Array.getElem?_eq_some_iff.1 ((HB8.out.block _ pl2).trans PK2.out)).1).trans ((HB8.out.block _ pl2).trans PK2.out))
            have ql2 := (Array.getElem?_eq_some_iff.1 qk2).1
            have qk3 := ((HB9.out.block _ (Array.getElem?_eq_some_iff.1 ((HB8.out.block _ pl3).trans PK3.out)).1).trans ((HB8.out.block _ pl3).trans PK3.out))
            have ql3 := (Array.getElem?_eq_some_iff.1 qk3).1
            have qk4 := ((HB9.out.block _ (Array.getElem?_eq_some_iff.1 ((HB8.out.block _ pl4).trans PK4.out)).1).trans ((HB8.out.block _ pl4).trans PK4.out))
            have ql4 := (Array.getElem?_eq_some_iff.1 qk4).1
            have qk5 := ((HB9.out.block _ (Array.getElem?_eq_some_iff.1 ((HB8.out.block _ pl5).trans PK5.out)).1).trans ((HB8.out.block _ pl5).trans PK5.out))
            have ql5 := (Array.getElem?_eq_some_iff.1 qk5).1
            have kr9 := ((HB9.out.block _ (Array.getElem?_eq_some_iff.1 ((HB8.out.block _ lr7).trans KR7.out)).1).trans ((HB8.out.block _ lr7).trans KR7.out))
            have lr9 := (Array.getElem?_eq_some_iff.1 kr9).1
            clear hcb8 hfb8 hlb8 hcb9 hfb9 hlb9 HB8 HB9 HBe KR7 lr7 HN1 HN2 F4 F5 SK0 SK1 sl0 sl1 PK0 pl0 PK1 pl1 PK2 pl2 PK3 pl3 PK4 pl4 PK5 pl5
            refine region_boxes [⟨10, 11, 17, 23, #[.int .i64 0, .int .i64 0, .int .i64 0], #[.int .i64 X0, .int .i64 X1, .int .i64 X2]⟩] [(86, .int .i64 (n : Int)), (87, .int .i64 (n : Int)), (88, ptV a0 a1 a2), (89, ptV e0 e1 e2), (90, ptV J10 J11 J12), (91, .int .i64 (n : Int)), (92, ptV b0 b1 b2), (93, ptV d0 d1 d2), (94, ptV K10 K11 K12), (95, ptV X0 X1 X2)] (by kernel_rfl) (by kernel_rfl) (by kernel_rfl) (fun aE hpe => ?_)
            simp only [puts, Act.put, List.setIfInBounds_toArray, List.set_cons_zero, List.set_cons_succ] at hpe
            subst hpe
            refine ⟨⟨⟨?_, ?_⟩, trivial⟩, ⟨.inr ?_, .inr ?_, .inr ?_, .inr ?_, .inr ?_, .inr ?_, .inr ?_, .inr ?_, .inr ?_, .inr ?_, .inl rfl, .inl rfl, trivial⟩, ?_⟩
            · intro o ho ρ W
              obtain rfl : _ = o := Option.some.inj ho
              simp [execOp, go_sem]
            · intro o ho ρ W g hv hp hg
              obtain rfl : _ = o := Option.some.inj ho
              exact run_store_row (U := #[.int .i64 X0, .int .i64 X1, .int .i64 X2]) 23 (.tmp 17) (.tmp 95) rfl hp (hv 95 (by simp [readsOf, Op.operands]) (by show (95 : Nat) ≠ 17; decide)) hg rfl Try.sizeOf23 (by simp [Value.oneCell'])
            · exact CalmG.mk 86 (.int .i64 (n : Int)) rfl rfl rfl (fun W hW => calm_move (.tmp 0) rfl rfl)
            · exact CalmG.mk 87 (.int .i64 (n : Int)) rfl rfl rfl (fun W hW => calm_move (.tmp 0) rfl rfl)
            · exact CalmG.mk 88 (ptV a0 a1 a2) rfl rfl rfl (fun W hW => calm_load (cs := #[.int .i64 a0, .int .i64 a1, .int .i64 a2]) (g := pb0) (T := 23) (fr := (0, 0)) 23 (.tmp 9) rfl rfl (by rw [hW.block _ ql0]; exact qk0) 3 rfl Try.sizeOf23 Try.isAgg23)
            · exact CalmG.mk 89 (ptV e0 e1 e2) rfl rfl rfl (fun W hW => calm_load (cs := #[.int .i64 e0, .int .i64 e1, .int .i64 e2]) (g := pb4) (T := 23) (fr := (0, 0)) 23 (.tmp 13) rfl rfl (by rw [hW.block _ ql4]; exact qk4) 3 rfl Try.sizeOf23 Try.isAgg23)
            · exact CalmG.mk 90 (ptV J10 J11 J12) rfl rfl rfl (fun W hW => calm_call 101 _ #[.int .i64 (n : Int), ptV a0 a1 a2, ptV e0 e1 e2] rfl rfl rfl (by simp [Act.eval]) (Try.call101 _ _) (HJ1.out W))
            · exact CalmG.mk 91 (.int .i64 (n : Int)) rfl rfl rfl (fun W hW => calm_move (.tmp 0) rfl rfl)
            · exact CalmG.mk 92 (ptV b0 b1 b2) rfl rfl rfl (fun W hW => calm_load (cs := #[.int .i64 b0, .int .i64 b1, .int .i64 b2]) (g := pb1) (T := 23) (fr := (0, 0)) 23 (.tmp 10) rfl rfl (by rw [hW.block _ ql1]; exact qk1) 3 rfl Try.sizeOf23 Try.isAgg23)
            · exact CalmG.mk 93 (ptV d0 d1 d2) rfl rfl rfl (fun W hW => calm_load (cs := #[.int .i64 d0, .int .i64 d1, .int .i64 d2]) (g := pb3) (T := 23) (fr := (0, 0)) 23 (.tmp 12) rfl rfl (by rw [hW.block _ ql3]; exact qk3) 3 rfl Try.sizeOf23 Try.isAgg23)
            · exact CalmG.mk 94 (ptV K10 K11 K12) rfl rfl rfl (fun W hW => calm_call 101 _ #[.int .i64 (n : Int), ptV b0 b1 b2, ptV d0 d1 d2] rfl rfl rfl (by simp [Act.eval]) (Try.call101 _ _) (HK1.out W))
            · exact CalmG.mk 95 (ptV X0 X1 X2) rfl rfl rfl (fun W hW => calm_call 105 _ #[.int .i64 (n : Int), ptV J10 J11 J12, ptV K10 K11 K12] rfl rfl rfl (by simp [Act.eval]) (Try.call105 _ _) (HX.out W))
            intro g WA hW hbx _
            obtain ⟨ug0, uk0⟩ := hbx _ (.head _)
            dsimp only at ug0 uk0
            simp only [List.map_cons, List.map_nil, puts, Act.put, List.setIfInBounds_toArray, List.set_cons_zero, List.set_cons_succ]
            clear hbx
            generalize g 17 = ub0 at *
            have HBg := Lib.hid (low_tr' HBf.out hW HBf.out.size)
            have krA := (hW.block _ lr9).trans kr9
            have lrA := (Array.getElem?_eq_some_iff.1 krA).1
            have ul0 := (Array.getElem?_eq_some_iff.1 uk0).1
            replace qk0 := (hW.block _ ql0).trans qk0
            replace ql0 := (Array.getElem?_eq_some_iff.1 qk0).1
            replace qk2 := (hW.block _ ql2).trans qk2
            replace ql2 := (Array.getElem?_eq_some_iff.1 qk2).1
            replace qk3 := (hW.block _ ql3).trans qk3
            replace ql3 := (Array.getElem?_eq_some_iff.1 qk3).1
            replace qk5 := (hW.block _ ql5).trans qk5
            replace ql5 := (Array.getElem?_eq_some_iff.1 qk5).1
            clear hW kr9 lr9 HBf ug0 HJ1 HK1 HX qk1 ql1 qk4 ql4
            go_wp2
            refine region_boxes [⟨10, 11, 18, 23, #[.int .i64 0, .int .i64 0, .int .i64 0], #[.int .i64 Y0, .int .i64 Y1, .int .i64 Y2]⟩] [(96, .int .i64 (n : Int)), (97, .int .i64 (n : Int)), (98, ptV a0 a1 a2), (99, ptV f0 f1 f2), (100, ptV J20 J21 J22), (101, .int .i64 (n : Int)), (102, ptV c0 c1 c2), (103, ptV d0 d1 d2), (104, ptV K20 K21 K22), (105, ptV Y0 Y1 Y2)] (by kernel_rfl) (by kernel_rfl) (by kernel_rfl) (fun aE hpe => ?_)
            simp only [puts, Act.put, List.setIfInBounds_toArray, List.set_cons_zero, List.set_cons_succ] at hpe
            subst hpe
            refine ⟨⟨⟨?_, ?_⟩, trivial⟩, ⟨.inr ?_, .inr ?_, .inr ?_, .inr ?_, .inr ?_, .inr ?_, .inr ?_, .inr ?_, .inr ?_, .inr ?_, .inl rfl, .inl rfl, trivial⟩, ?_⟩
            · intro o ho ρ W
              obtain rfl : _ = o := Option.some.inj ho
              simp [execOp, go_sem]
            · intro o ho ρ W g hv hp hg
              obtain rfl : _ = o := Option.some.inj ho
              exact run_store_row (U := #[.int .i64 Y0, .int .i64 Y1, .int .i64 Y2]) 23 (.tmp 18) (.tmp 105) rfl hp (hv 105 (by simp [readsOf, Op.operands]) (by show (105 : Nat) ≠ 18; decide)) hg rfl Try.sizeOf23 (by simp [Value.oneCell'])
            · exact CalmG.mk 96 (.int .i64 (n : Int)) rfl rfl rfl (fun W hW => calm_move (.tmp 0) rfl rfl)
            · exact CalmG.mk 97 (.int .i64 (n : Int)) rfl rfl rfl (fun W hW => calm_move (.tmp 0) rfl rfl)
            · exact CalmG.mk 98 (ptV a0 a1 a2) rfl rfl rfl (fun W hW => calm_load (cs := #[.int .i64 a0, .int .i64 a1, .int .i64 a2]) (g := pb0) (T := 23) (fr := (0, 0)) 23 (.tmp 9) rfl rfl (by rw [hW.block _ ql0]; exact qk0) 3 rfl Try.sizeOf23 Try.isAgg23)
            · exact CalmG.mk 99 (ptV f0 f1 f2) rfl rfl rfl (fun W hW => calm_load (cs := #[.int .i64 f0, .int .i64 f1, .int .i64 f2]) (g := pb5) (T := 23) (fr := (0, 0)) 23 (.tmp 14) rfl rfl (by rw [hW.block _ ql5]; exact qk5) 3 rfl Try.sizeOf23 Try.isAgg23)
            · exact CalmG.mk 100 (ptV J20 J21 J22) rfl rfl rfl (fun W hW => calm_call 101 _ #[.int .i64 (n : Int), ptV a0 a1 a2, ptV f0 f1 f2] rfl rfl rfl (by simp [Act.eval]) (Try.call101 _ _) (HJ2.out W))
            · exact CalmG.mk 101 (.int .i64 (n : Int)) rfl rfl rfl (fun W hW => calm_move (.tmp 0) rfl rfl)
            · exact CalmG.mk 102 (ptV c0 c1 c2) rfl rfl rfl (fun W hW => calm_load (cs := #[.int .i64 c0, .int .i64 c1, .int .i64 c2]) (g := pb2) (T := 23) (fr := (0, 0)) 23 (.tmp 11) rfl rfl (by rw [hW.block _ ql2]; exact qk2) 3 rfl Try.sizeOf23 Try.isAgg23)
            · exact CalmG.mk 103 (ptV d0 d1 d2) rfl rfl rfl (fun W hW => calm_load (cs := #[.int .i64 d0, .int .i64 d1, .int .i64 d2]) (g := pb3) (T := 23) (fr := (0, 0)) 23 (.tmp 12) rfl rfl (by rw [hW.block _ ql3]; exact qk3) 3 rfl Try.sizeOf23 Try.isAgg23)
            · exact CalmG.mk 104 (ptV K20 K21 K22) rfl rfl rfl (fun W hW => calm_call 101 _ #[.int .i64 (n : Int), ptV c0 c1 c2, ptV d0 d1 d2] rfl rfl rfl (by simp [Act.eval]) (Try.call101 _ _) (HK2.out W))
            · exact CalmG.mk 105 (ptV Y0 Y1 Y2) rfl rfl rfl (fun W hW => calm_call 105 _ #[.int .i64 (n : Int), ptV J20 J21 J22, ptV K20 K21 K22] rfl rfl rfl (by simp [Act.eval]) (Try.call105 _ _) (HY.out W))
            intro g WB hW hbx _
            obtain ⟨vg0, vk0⟩ := hbx _ (.head _)
            dsimp only at vg0 vk0
            simp only [List.map_cons, List.map_nil, puts, Act.put, List.setIfInBounds_toArray, List.set_cons_zero, List.set_cons_succ]
            clear hbx
            generalize g 18 = vb0 at *
            have HBh := Lib.hid (low_tr' HBg.out hW HBg.out.size)
            have KRB := Lib.hid ((hW.block _ lrA).trans krA)
            have lrB := (Array.getElem?_eq_some_iff.1 KRB.out).1
            have UK := Lib.hid ((hW.block _ ul0).trans uk0)
            have VK := Lib.hid vk0
            clear hW krA lrA HBg vg0 HJ2 HK2 HY uk0 ul0 vk0 qk0 ql0 qk2 ql2 qk3 ql3 qk5 ql5
            go_wp2_with (first
              | (refine wpList_load_row _ rfl 23 _ rfl (g := ub0) (T := 23) (cs := #[.int .i64 X0, .int .i64 X1, .int .i64 X2]) (fr := (0, 0)) rfl (by first | exact UK.out) 3 rfl Try.sizeOf23 Try.isAgg23 ?_)
              | (refine wpList_load_row _ rfl 23 _ rfl (g := vb0) (T := 23) (cs := #[.int .i64 Y0, .int .i64 Y1, .int .i64 Y2]) (fr := (0, 0)) rfl (by first | exact VK.out) 3 rfl Try.sizeOf23 Try.isAgg23 ?_)
              | (go_at_call 101; (with_reducible refine (HR.out _).mono ?_); rintro e w10_ ⟨rfl, hb10⟩; obtain ⟨hcb10, hfb10, hlb10⟩ := bcell hb10; have hsz10 := hb10.size; (try simp at hsz10); have HB10 := Lib.hid hb10; clear hb10)
              | (refine wpList_store_row _ rfl 24 _ _ rfl rfl (g := w.heap.size) (T := 24) (cs := #[.int .i64 0, .int .i64 0, .int .i64 0]) (U := #[.int .i64 R0, .int .i64 R1, .int .i64 R2]) rfl rfl ((HB10.out.block _ lrB).trans KRB.out) rfl Try.sizeOf24 (by simp [Value.oneCell']) ?_))
            obtain rfl := F6.out (by first | rfl | trivial) (by first | rfl | trivial) (by first | rfl | trivial) (by first | rfl | trivial)
            exact bodyPost_ret (v := .tuple #[ptV R0 R1 R2, .int .i64 0]) (results_rowT Try.results55 rfl rfl (setRow_heap _ _ #[.int .i64 0, .int .i64 0, .int .i64 0] _ _ _ ((HB10.out.block _ lrB).trans KRB.out)) 3 rfl Try.sizeOf24 Try.isAgg24) rfl ⟨rfl, below_setRowN (low_tr' HBh.out HB10.out HBh.out.size) (Nat.le_refl _) _⟩
          · have h2i : (0 : Int) < (q2 : Int) := by omega
            have tok8 : True := trivial
            go_wp2_with (first
              | (refine wpList_load_row _ rfl 24 _ rfl (g := sb0) (T := 24) (cs := #[.int .i64 L0, .int .i64 L1, .int .i64 L2]) (fr := (0, 0)) rfl (by first | exact SK0.out | exact ((HB8.out.block _ sl0).trans SK0.out) | exact ((HB9.out.block _ (Array.getElem?_eq_some_iff.1 ((HB8.out.block _ sl0).trans SK0.out)).1).trans ((HB8.out.block _ sl0).trans SK0.out))) 3 rfl Try.sizeOf24 Try.isAgg24 ?_)
              | (refine wpList_load_row _ rfl 24 _ rfl (g := sb1) (T := 24) (cs := #[.int .i64 M0, .int .i64 M1, .int .i64 M2]) (fr := (0, 0)) rfl (by first | exact SK1.out | exact ((HB8.out.block _ sl1).trans SK1.out) | exact ((HB9.out.block _ (Array.getElem?_eq_some_iff.1 ((HB8.out.block _ sl1).trans SK1.out)).1).trans ((HB8.out.block _ sl1).trans SK1.out))) 3 rfl Try.sizeOf24 Try.isAgg24 ?_)
              | (have _t := tok8; (go_at_call 119; (with_reducible refine (HN1.out _ HBe.out).mono ?_); rintro e w8_ ⟨rfl, hb8⟩; obtain ⟨hcb8, hfb8, hlb8⟩ := bcell hb8; have hsz8 := hb8.size; (try simp at hsz8); have HB8 := Lib.hid hb8; clear hb8); clear tok8)
              | (go_at_call 119; (with_reducible refine (HN2.out _ (low_tr' HBe.out HB8.out HBe.out.size)).mono ?_); rintro e w9_ ⟨rfl, hb9⟩; obtain ⟨hcb9, hfb9, hlb9⟩ := bcell hb9; have hsz9 := hb9.size; (try simp at hsz9); have HB9 := Lib.hid hb9; clear hb9)
              | (refine wpList_build _ rfl 24 _ rfl #[.int .i64 0, .int .i64 0, .int .i64 0] (by kernel_rfl) ?_)
              | (refine wpList_store_row _ rfl 24 _ _ rfl rfl (g := w.heap.size) (T := 24) (cs := #[.int .i64 0, .int .i64 0, .int .i64 0]) (U := #[.int .i64 0, .int .i64 0, .int .i64 0]) rfl rfl (by first | exact KR7.out | exact ((HB8.out.block _ lr7).trans KR7.out) | exact ((HB9.out.block _ (Array.getElem?_eq_some_iff.1 ((HB8.out.block _ lr7).trans KR7.out)).1).trans ((HB8.out.block _ lr7).trans KR7.out))) rfl Try.sizeOf24 (by simp [Value.oneCell']) ?_))
            obtain rfl := F5.out h2
            exact bodyPost_ret (v := .tuple #[ptV 0 0 0, .int .i64 5]) (results_rowT Try.results55 rfl rfl (setRow_heap _ _ #[.int .i64 0, .int .i64 0, .int .i64 0] _ _ _ (((HB9.out.block _ (Array.getElem?_eq_some_iff.1 ((HB8.out.block _ lr7).trans KR7.out)).1).trans ((HB8.out.block _ lr7).trans KR7.out)))) 3 rfl Try.sizeOf24 Try.isAgg24) rfl ⟨rfl, below_setRowN (low_tr' (low_tr' HBe.out HB8.out HBe.out.size) HB9.out (low_tr' HBe.out HB8.out HBe.out.size).size) (Nat.le_refl _) _⟩
        · have h1i : (0 : Int) < (q1 : Int) := by omega
          go_wp2_with (first
            | (refine wpList_load_row _ rfl 24 _ rfl (g := sb0) (T := 24) (cs := #[.int .i64 L0, .int .i64 L1, .int .i64 L2]) (fr := (0, 0)) rfl (by first | exact SK0.out | exact ((HB8.out.block _ sl0).trans SK0.out)) 3 rfl Try.sizeOf24 Try.isAgg24 ?_)
            | (refine wpList_load_row _ rfl 24 _ rfl (g := sb1) (T := 24) (cs := #[.int .i64 M0, .int .i64 M1, .int .i64 M2]) (fr := (0, 0)) rfl (by first | exact SK1.out | exact ((HB8.out.block _ sl1).trans SK1.out)) 3 rfl Try.sizeOf24 Try.isAgg24 ?_)
            | (go_at_call 119; (with_reducible refine (HN1.out _ HBe.out).mono ?_); rintro e w8_ ⟨rfl, hb8⟩; obtain ⟨hcb8, hfb8, hlb8⟩ := bcell hb8; have hsz8 := hb8.size; (try simp at hsz8); have HB8 := Lib.hid hb8; clear hb8)
            | (refine wpList_build _ rfl 24 _ rfl #[.int .i64 0, .int .i64 0, .int .i64 0] (by kernel_rfl) ?_)
            | (refine wpList_store_row _ rfl 24 _ _ rfl rfl (g := w.heap.size) (T := 24) (cs := #[.int .i64 0, .int .i64 0, .int .i64 0]) (U := #[.int .i64 0, .int .i64 0, .int .i64 0]) rfl rfl (by first | exact KR7.out | exact ((HB8.out.block _ lr7).trans KR7.out)) rfl Try.sizeOf24 (by simp [Value.oneCell']) ?_))
          obtain rfl := F4.out h1
          exact bodyPost_ret (v := .tuple #[ptV 0 0 0, .int .i64 5]) (results_rowT Try.results55 rfl rfl (setRow_heap _ _ #[.int .i64 0, .int .i64 0, .int .i64 0] _ _ _ (((HB8.out.block _ lr7).trans KR7.out))) 3 rfl Try.sizeOf24 Try.isAgg24) rfl ⟨rfl, below_setRowN (low_tr' HBe.out HB8.out HBe.out.size) (Nat.le_refl _) _⟩
theorem PappusLine_code (p : Int) (b1 b2 : Option Addr) (n1 c1 n2 c2 : Nat) (l1 l2 : List Pt) (k : Int) (w : World) (hn1 : n1 ≤ 1000000) (hn2 : n2 ≤ 1000000) (i1 : ListC w b1 n1 c1 l1) (i2 : ListC w b2 n2 c2 l2) (hk : threesR p n1 n2 l1 l2 = k) (h0 : k ≠ 0) :
    Calls Try.prog 55 #[.int .i64 p, .slice b1 n1 c1, .slice b2 n2 c2] w (Ret w (.tuple #[ptV 0 0 0, .int .i64 k])) := by
  have HTc := Lib.hid (fun (W : World) (hW : Below w.heap.size w W) => threesCode_any p b1 b2 n1 c1 n2 c2 l1 l2 W hn1 hn2 (i1.below hW) (i2.below hW))
  rw [hk] at HTc
  have hq : (k != 0) = true := bnet h0
  clear i1 i2 hk
  go_enter Try.func55, Try.ntmps55
  go_wp2_with (first
    | (go_at_call 118; (with_reducible refine (HTc.out _ (bal (Below.refl _ _) _)).mono ?_); rintro e w1_ ⟨rfl, hb1⟩; obtain ⟨hcb1, hfb1, hlb1⟩ := bcell hb1; have hsz1 := hb1.size; (try simp at hsz1); have HB1 := Lib.hid hb1; clear hb1; (try (have hl01 : w.heap.size < w1_.heap.size := by omega)))
    | (refine wpList_build _ rfl 24 _ rfl #[.int .i64 0, .int .i64 0, .int .i64 0] (by kernel_rfl) ?_)
    | (refine wpList_store_row _ rfl 24 _ _ rfl rfl (g := w.heap.size) (T := 24) (cs := #[.int .i64 0, .int .i64 0, .int .i64 0]) (U := #[.int .i64 0, .int .i64 0, .int .i64 0]) rfl rfl (by rw [HB1.out.block _ (by simp), hn_atN _ _ _ rfl]) rfl Try.sizeOf24 (by simp [Value.oneCell']) ?_))
  exact bodyPost_ret (v := .tuple #[ptV 0 0 0, .int .i64 k]) (results_rowT Try.results55 rfl rfl (setRow_heap _ _ #[.int .i64 0, .int .i64 0, .int .i64 0] _ _ _ (by rw [HB1.out.block _ (by simp), hn_atN _ _ _ rfl])) 3 rfl Try.sizeOf24 Try.isAgg24) rfl ⟨rfl, below_setRowN (by repeat (first | exact Below.refl _ _ | refine bset ?_ _ _ (by omega) _ | refine bal ?_ _ | refine bdrN ?_ _ | refine bdr ?_ | refine below_tr' ?_ HB1.out)) (Nat.le_refl _) _⟩
theorem list3 {l : List Pt} (h : l.length = 3) : ∃ a b c, l = [a, b, c] := by
  match l, h with
  | [a, b, c], _ => exact ⟨a, b, c, rfl⟩
theorem PappusLine_impl (p : Int) (b1 b2 : Option Addr) (n1 c1 n2 c2 : Nat) (l1 l2 : List Pt) (w : World) (hn1 : n1 ≤ 1000000) (hn2 : n2 ≤ 1000000) (i1 : ListC w b1 n1 c1 l1) (i2 : ListC w b2 n2 c2 l2) :
    Calls Try.prog 55 #[.int .i64 p, .slice b1 n1 c1, .slice b2 n2 c2] w (Ret w (.tuple #[ptV (papR p n1 n2 l1 l2).1.1 (papR p n1 n2 l1 l2).1.2.1 (papR p n1 n2 l1 l2).1.2.2, .int .i64 (papR p n1 n2 l1 l2).2])) := by
  by_cases h0 : threesR p n1 n2 l1 l2 = 0
  · obtain ⟨hp, hv1, hv2, rfl, rfl⟩ := threesR_zero h0
    obtain ⟨n, rfl⟩ : ∃ n : Nat, p = n := ⟨p.toNat, by have := prB_bd hp; omega⟩
    obtain ⟨a, b, c, rfl⟩ := list3 i1.1
    obtain ⟨d, e, f, rfl⟩ := list3 i2.1
    rcases i1.2 with ⟨_, h3, _⟩ | ⟨g1, rfl, hP1⟩
    · cases h3
    rcases i2.2 with ⟨_, h3, _⟩ | ⟨g2, rfl, hP2⟩
    · cases h3
    have hR : papR n 3 3 [a, b, c] [d, e, f] = papC n a b c d e f := by unfold papR; rw [if_neg (by simp [h0])]; rfl
    rw [hR]
    obtain ⟨ha, hb, hc⟩ := pts3 (x := 0) (y := 0) (z := 0) (u := 0) (v := 0) (t := 0) hv1
    obtain ⟨hd, he, hf⟩ := pts3 (x := 0) (y := 0) (z := 0) (u := 0) (v := 0) (t := 0) hv2
    exact PappusLine_core n g1 c1 g2 c2 a.1 a.2.1 a.2.2 b.1 b.2.1 b.2.2 c.1 c.2.1 c.2.2 d.1 d.2.1 d.2.2 e.1 e.2.1 e.2.2 f.1 f.2.1 f.2.2 w hp ha hb hc hd he hf hP1 hP2 h0 _ rfl
  · have hR : papR p n1 n2 l1 l2 = ((0, 0, 0), threesR p n1 n2 l1 l2) := by unfold papR; rw [if_pos h0]
    rw [hR]
    exact PappusLine_code p b1 b2 n1 c1 n2 c2 l1 l2 _ w hn1 hn2 i1 i2 rfl h0
end Go.Proofs.Ythkbhaaodegocaa
/- Contracts: the reference's PappusLine, walked. (Printed by genp6.py, a program of this session.) -/
namespace Go.Proofs.Ythkbhaaodegocaa
open Go.RowKit
set_option linter.unusedVariables false
set_option linter.unusedSimpArgs false
theorem own_sz {w : World} {base : Nat} {e : TypeId} {size n : Nat} {b : Addr} {m c : Nat} {xs : List Value} (h : w.ownsRow base e size (.slice (some b) m c) n xs) : base ≤ w.heap.size := by
  rcases h.2 with ⟨h1, _⟩ | ⟨g, cap, cur, h1, hb, hg, _⟩
  · cases h1
  · exact Nat.le_of_lt (Nat.lt_of_le_of_lt hb (Array.getElem?_eq_some_iff.1 hg).1)
theorem newPs (wr : World) (q : Nat) (hq : wr.heap.size = q) (x y z : Value) (T : TypeId) : ∀ (j : Nat) (u : Value), [x, y, z][j]? = some u → (wr.alloc (.cells #[x, y, z] T)).cell? ((⟨q, 0, none⟩ : Addr).add j) = some u := by
  subst hq
  exact newP wr x y z T
theorem own_szn {w : World} {base : Nat} {e : TypeId} {size n : Nat} {v : Value} {xs : List Value} (h : w.ownsRow base e size v n xs) (hn : 0 < n) : base ≤ w.heap.size := by
  rcases h.2 with ⟨_, h1⟩ | ⟨g, cap, cur, h1, hb, hg, _⟩
  · omega
  · exact Nat.le_of_lt (Nat.lt_of_le_of_lt hb (Array.getElem?_eq_some_iff.1 hg).1)
set_option maxRecDepth 20000 in
set_option maxHeartbeats 4000000 in
theorem l09Through_any (n : Nat) (gl cap : Nat) (x0 x1 x2 y0 y1 y2 z0 z1 z2 : Int) (w : World) (hp : prB (n : Int) = true) (ix : In13 (x0, x1, x2)) (iy : In13 (y0, y1, y2)) (iz : In13 (z0, z1, z2)) (hok : okC n (x0, x1, x2) (y0, y1, y2) = true) (hP : PtsAt w gl 0 3 [(x0, x1, x2), (y0, y1, y2), (z0, z1, z2)]) :
    Calls Try.prog 117 #[.int .i64 (n : Int), .slice (some ⟨gl, 0, none⟩) 3 cap] w (Ret w (.tuple #[ptV (crsN n (x0, x1, x2) (y0, y1, y2)).1 (crsN n (x0, x1, x2) (y0, y1, y2)).2.1 (crsN n (x0, x1, x2) (y0, y1, y2)).2.2, .bool (onB n (z0, z1, z2) (crsN n (x0, x1, x2) (y0, y1, y2)))])) := by
  have HJ := Lib.hid (fun (W : World) => l01Join_crs n x0 x1 x2 y0 y1 y2 W hp ix iy)
  have iR : In13 (crsN n (x0, x1, x2) (y0, y1, y2)) := crsN_in' hp
  have HOn : Hid (∀ W, Calls Try.prog 70 #[.int .i64 (n : Int), ptV z0 z1 z2, ptV (crsN n (x0, x1, x2) (y0, y1, y2)).1 (crsN n (x0, x1, x2) (y0, y1, y2)).2.1 (crsN n (x0, x1, x2) (y0, y1, y2)).2.2] W (Ret W (.bool (onB n (z0, z1, z2) (crsN n (x0, x1, x2) (y0, y1, y2)))))) := Lib.hid (fun W => l01On_any n z0 z1 z2 _ _ _ W hp iz iR)
  rw [hok] at HJ
  have HP0 := Lib.hid hP
  clear hP hok hp ix iy iz iR
  generalize onB n (z0, z1, z2) (crsN n (x0, x1, x2) (y0, y1, y2)) = ob at *
  generalize crsN n (x0, x1, x2) (y0, y1, y2) = r at *
  obtain ⟨r0, r1, r2⟩ := r
  dsimp only at *
  go_enter Try.func117, Try.ntmps117
  go_wp2
  have kr : (w.alloc (.cells #[.int .i64 0, .int .i64 0, .int .i64 0] 24)).heap[w.heap.size]? = some (.cells #[.int .i64 0, .int .i64 0, .int .i64 0] 24 (0, 0)) := heap_alloc_new _ _
  have HB0 := Lib.hid (show Below w.heap.size w (w.alloc (.cells #[.int .i64 0, .int .i64 0, .int .i64 0] 24)) from (by repeat (first | exact Below.refl _ _ | refine bset ?_ _ _ (by omega) _ | refine bal ?_ _ | refine bdrN ?_ _ | refine bdr ?_)))
  generalize w.alloc (.cells #[.int .i64 0, .int .i64 0, .int .i64 0] 24) = V1 at *
  have HP1 := Lib.hid (HP0.out.below HB0.out)
  have lr := (Array.getElem?_eq_some_iff.1 kr).1
  refine wp_loop_rounds 4 ?_
  rw [rounds_succ]; go_wp2
  refine region_boxes [⟨15, 16, 7, 24, #[.int .i64 0, .int .i64 0, .int .i64 0], #[.int .i64 r0, .int .i64 r1, .int .i64 r2]⟩] [(14, .int .i64 (n : Int)), (15, .slice (some ⟨gl, 0, none⟩) 3 cap), (16, .int .i64 0), (17, .pointer (some ⟨gl, 0, none⟩)), (18, ptV x0 x1 x2), (19, .slice (some ⟨gl, 0, none⟩) 3 cap), (20, .int .i64 0), (21, .int .i64 1), (22, .int .i64 1), (23, .pointer (some ⟨gl, 3, none⟩)), (24, ptV y0 y1 y2), (25, .tuple #[ptV r0 r1 r2, .bool true]), (13, .tuple #[ptV r0 r1 r2, .bool true]), (26, ptV r0 r1 r2), (27, .bool true), (8, .bool true)] (by kernel_rfl) (by kernel_rfl) (by kernel_rfl) (fun aE hpe => ?_)
  simp only [puts, Act.put, List.setIfInBounds_toArray, List.set_cons_zero, List.set_cons_succ] at hpe
  subst hpe
  refine ⟨⟨⟨?_, ?_⟩, trivial⟩, ⟨.inr ?_, .inr ?_, .inr ?_, .inr ?_, .inr ?_, .inr ?_, .inr ?_, .inr ?_, .inr ?_, .inr ?_, .inr ?_, .inr ?_, .inr ?_, .inr ?_, .inr ?_, .inl rfl, .inl rfl, .inr ?_, trivial⟩, ?_⟩
  · intro o ho ρ W
    obtain rfl : _ = o := Option.some.inj ho
    simp [execOp, go_sem]
  · intro o ho ρ W g hv hp hg
    obtain rfl : _ = o := Option.some.inj ho
    exact run_store_row (U := #[.int .i64 r0, .int .i64 r1, .int .i64 r2]) 24 (.tmp 7) (.tmp 26) rfl hp (hv 26 (by simp [readsOf, Op.operands]) (by show (26 : Nat) ≠ 7; decide)) hg rfl Try.sizeOf24 (by simp [Value.oneCell'])
  · exact CalmG.mk 14 (.int .i64 (n : Int)) rfl rfl rfl (fun W hW => calm_move (.tmp 0) rfl rfl)
  · exact CalmG.mk 15 (.slice (some ⟨gl, 0, none⟩) 3 cap) rfl rfl rfl (fun W hW => calm_move (.tmp 1) rfl rfl)
  · exact CalmG.mk 16 (.int .i64 0) rfl rfl rfl (fun W hW => calm_move (.tmp 6) rfl rfl)
  · exact CalmG.mk 17 (.pointer (some ⟨gl, 0, none⟩)) rfl rfl rfl (fun W hW => calm_run (by simp [execOp, Act.eval, go_sem]))
  · exact CalmG.mk 18 (ptV x0 x1 x2) rfl rfl rfl (fun W hW => calm_loadPt 23 (.tmp 17) rfl rfl (cell_below hW (HP1.out 0 (by omega)).1) (cell_below hW (HP1.out 0 (by omega)).2.1) (cell_below hW (HP1.out 0 (by omega)).2.2) Try.sizeOf23 Try.isAgg23)
  · exact CalmG.mk 19 (.slice (some ⟨gl, 0, none⟩) 3 cap) rfl rfl rfl (fun W hW => calm_move (.tmp 1) rfl rfl)
  · exact CalmG.mk 20 (.int .i64 0) rfl rfl rfl (fun W hW => calm_move (.tmp 6) rfl rfl)
  · exact CalmG.mk 21 (.int .i64 1) rfl rfl rfl (fun W hW => calm_run (by simp [execOp, Act.eval, go_sem, IntKind.wrap, IntKind.signed, IntKind.bits]))
  · exact CalmG.mk 22 (.int .i64 1) rfl rfl rfl (fun W hW => calm_run (by simp [execOp, Act.eval, go_sem, IntKind.wrap, IntKind.signed, IntKind.bits]))
  · exact CalmG.mk 23 (.pointer (some ⟨gl, 3, none⟩)) rfl rfl rfl (fun W hW => calm_run (by simp [execOp, Act.eval, go_sem]))
  · exact CalmG.mk 24 (ptV y0 y1 y2) rfl rfl rfl (fun W hW => calm_loadPt 23 (.tmp 23) rfl rfl (cell_below hW (HP1.out 1 (by omega)).1) (cell_below hW (HP1.out 1 (by omega)).2.1) (cell_below hW (HP1.out 1 (by omega)).2.2) Try.sizeOf23 Try.isAgg23)
  · exact CalmG.mk 25 (.tuple #[ptV r0 r1 r2, .bool true]) rfl rfl rfl (fun W hW => calm_call 96 _ #[.int .i64 (n : Int), ptV x0 x1 x2, ptV y0 y1 y2] rfl rfl rfl (by simp [Act.eval]) (Try.call96 _ _) (HJ.out W))
  · exact CalmG.mk 13 (.tuple #[ptV r0 r1 r2, .bool true]) rfl rfl rfl (fun W hW => calm_move (.tmp 25) rfl rfl)
  · exact CalmG.mk 26 (ptV r0 r1 r2) rfl rfl rfl (fun W hW => calm_extract (.tmp 13) 0 rfl rfl rfl)
  · exact CalmG.mk 27 (.bool true) rfl rfl rfl (fun W hW => calm_extract (.tmp 13) 1 rfl rfl rfl)
  · exact CalmG.mk 8 (.bool true) rfl rfl rfl (fun W hW => calm_assign (.tmp 27) rfl rfl)
  intro g V2 hW hbx _
  obtain ⟨pg0, pk0⟩ := hbx _ (.head _)
  dsimp only at pg0 pk0
  simp only [List.map_cons, List.map_nil, puts, Act.put, List.setIfInBounds_toArray, List.set_cons_zero, List.set_cons_succ]
  clear hbx
  generalize g 7 = pb0 at *
  have HB2 := Lib.hid (low_tr' HB0.out hW HB0.out.size)
  have kr2 := (hW.block _ lr).trans kr
  have lr2 := (Array.getElem?_eq_some_iff.1 kr2).1
  have HP2 := Lib.hid (HP0.out.below HB2.out)
  have pl0 := (Array.getElem?_eq_some_iff.1 pk0).1
  clear hW kr lr HP1 HB0 pg0 HJ
  go_wp2
  refine region_via 10 [(29, ptV r0 r1 r2), (30, .int .i64 (n : Int)), (31, .slice (some ⟨gl, 0, none⟩) 3 cap), (32, .int .i64 0), (33, .int .i64 2), (34, .int .i64 2), (35, .pointer (some ⟨gl, 6, none⟩)), (36, ptV z0 z1 z2), (37, ptV r0 r1 r2), (38, .bool ob)] (by kernel_rfl) (by decide) (by kernel_rfl) (by kernel_rfl) (by kernel_rfl) (fun aE hpe => ?_)
  simp only [puts, Act.put, List.setIfInBounds_toArray, List.set_cons_zero, List.set_cons_succ] at hpe
  subst hpe
  refine ⟨⟨.inr (.inr ?_), .inr (.inr ?_), .inr (.inr ?_), .inr (.inr ?_), .inr (.inr ?_), .inr (.inr ?_), .inr (.inr ?_), .inr (.inr ?_), .inr (.inr ?_), .inr (.inr ?_), trivial⟩, ?_⟩
  · exact CalmG.mk 29 (ptV r0 r1 r2) rfl rfl rfl (fun W hW => calm_load (cs := #[.int .i64 r0, .int .i64 r1, .int .i64 r2]) (g := pb0) (T := 24) (fr := (0, 0)) 24 (.tmp 7) rfl rfl ((hW.block _ pl0).trans pk0) 3 rfl Try.sizeOf24 Try.isAgg24)
  · exact CalmG.mk 30 (.int .i64 (n : Int)) rfl rfl rfl (fun W hW => calm_move (.tmp 0) rfl rfl)
  · exact CalmG.mk 31 (.slice (some ⟨gl, 0, none⟩) 3 cap) rfl rfl rfl (fun W hW => calm_move (.tmp 1) rfl rfl)
  · exact CalmG.mk 32 (.int .i64 0) rfl rfl rfl (fun W hW => calm_move (.tmp 6) rfl rfl)
  · exact CalmG.mk 33 (.int .i64 2) rfl rfl rfl (fun W hW => calm_run (by simp [execOp, Act.eval, go_sem, IntKind.wrap, IntKind.signed, IntKind.bits]))
  · exact CalmG.mk 34 (.int .i64 2) rfl rfl rfl (fun W hW => calm_run (by simp [execOp, Act.eval, go_sem, IntKind.wrap, IntKind.signed, IntKind.bits]))
  · exact CalmG.mk 35 (.pointer (some ⟨gl, 6, none⟩)) rfl rfl rfl (fun W hW => calm_run (by simp [execOp, Act.eval, go_sem]))
  · exact CalmG.mk 36 (ptV z0 z1 z2) rfl rfl rfl (fun W hW => calm_loadPt 23 (.tmp 35) rfl rfl (cell_below hW (HP2.out 2 (by omega)).1) (cell_below hW (HP2.out 2 (by omega)).2.1) (cell_below hW (HP2.out 2 (by omega)).2.2) Try.sizeOf23 Try.isAgg23)
  · exact CalmG.mk 37 (ptV r0 r1 r2) rfl rfl rfl (fun W hW => calm_load (cs := #[.int .i64 r0, .int .i64 r1, .int .i64 r2]) (g := pb0) (T := 24) (fr := (0, 0)) 24 (.tmp 7) rfl rfl ((hW.block _ pl0).trans pk0) 3 rfl Try.sizeOf24 Try.isAgg24)
  · exact CalmG.mk 38 (.bool ob) rfl rfl rfl (fun W hW => calm_call 70 _ #[.int .i64 (n : Int), ptV z0 z1 z2, ptV r0 r1 r2] rfl rfl rfl (by simp [Act.eval]) (Try.call70 _ _) (HOn.out W))
  intro W hW
  simp only [List.drop_succ_cons, List.drop_zero]
  refine wpList_store_row _ rfl 24 _ _ rfl rfl (g := w.heap.size) (T := 24) (cs := #[.int .i64 0, .int .i64 0, .int .i64 0]) (U := #[.int .i64 r0, .int .i64 r1, .int .i64 r2]) rfl rfl ((hW.block _ lr2).trans kr2) rfl Try.sizeOf24 (by simp [Value.oneCell']) ?_
  go_wp2
  exact bodyPost_ret (v := .tuple #[ptV r0 r1 r2, .bool ob]) (results_rowT Try.results117 rfl rfl (setRow_heap _ _ #[.int .i64 0, .int .i64 0, .int .i64 0] _ _ _ ((hW.block _ lr2).trans kr2)) 3 rfl Try.sizeOf24 Try.isAgg24) rfl ⟨rfl, below_setRowN (low_tr' HB2.out hW HB2.out.size) (Nat.le_refl _) _⟩
end Go.Proofs.Ythkbhaaodegocaa
