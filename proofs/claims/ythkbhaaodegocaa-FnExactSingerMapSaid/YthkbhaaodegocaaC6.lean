/- Contracts: the points on a line, in the reference. -/
import Derived.Test.YthkbhaaodegocaaC5
namespace Go.Proofs.Ythkbhaaodegocaa
open Go.RowKit
set_option linter.unusedVariables false
set_option linter.unusedSimpArgs false
theorem allP_in {n : Nat} (hn : n ≤ 13) : ∀ a ∈ allP n, In13 a := by
  intro a ha
  simp only [allP, pB, pA, pR, List.mem_append, List.mem_cons, List.mem_map, List.mem_range, List.mem_flatMap] at ha
  have k : ∀ x y z : Int, 0 ≤ x → x ≤ 12 → 0 ≤ y → y ≤ 12 → 0 ≤ z → z ≤ 12 → In13 (x, y, z) := fun x y z a b c d e f => ⟨⟨a, b⟩, ⟨c, d⟩, e, f⟩
  rcases ha with (rfl | ⟨z, hz, rfl⟩) | ⟨y, hy, z, hz, rfl⟩
  · exact k _ _ _ (by omega) (by omega) (by omega) (by omega) (by omega) (by omega)
  · exact k _ _ _ (by omega) (by omega) (by omega) (by omega) (by omega) (by omega)
  · exact k _ _ _ (by omega) (by omega) (by omega) (by omega) (by omega) (by omega)
theorem allP_length (n : Nat) : (allP n).length = n + 1 + n * n := pB_length n n
theorem filter_snoc {α : Type} (f : α → Bool) (l : List α) (d : α) (k : Nat) (h : k < l.length) : (l.take (k + 1)).filter f = (l.take k).filter f ++ (if f (l.getD k d) then [l.getD k d] else []) := by
  rw [take_snoc' l d k h, List.filter_append, List.filter_cons, List.filter_nil]
theorem low_tr' {b B : Nat} {w W W' : World} (h : Below b w W) (k : Below B W W') (hb : b ≤ B) : Below b w W' :=
  ⟨k.os.trans h.os, k.tape.trans h.tape, k.output.trans h.output, Nat.le_trans h.size k.size, fun n hn => (k.block n (Nat.lt_of_lt_of_le hn hb)).trans (h.block n hn)⟩
theorem own_below {W W' : World} {b : Nat} {T : TypeId} {size n : Nat} {v : Value} {xs : List Value} (h : W.ownsRow b T size v n xs) (hb : Below W.heap.size W W') : W'.ownsRow b T size v n xs := by
  refine ⟨h.1, ?_⟩
  rcases h.2 with h0 | ⟨g, cap, cur, h1, h2, hg, h3⟩
  · exact .inl h0
  · exact .inr ⟨g, cap, cur, h1, h2, by rw [hb.block _ (Array.getElem?_eq_some_iff.1 hg).1]; exact hg, h3⟩
theorem hn_at' (w : World) (o : Obj) (n : Nat) (h : n = w.heap.size) : (w.alloc o).heap[n]? = some o := by subst h; exact heap_alloc_new w o
set_option maxHeartbeats 2000000 in
theorem l01PointsOn_any (n : Nat) (l0 l1 l2 : Int) (w : World) (hp : prB (n : Int) = true) (hl : In13 (l0, l1, l2)) :
    Calls Try.prog 97 #[.int .i64 (n : Int), ptV l0 l1 l2] w (PtsPost w ((allP n).filter (fun a => onB (n : Int) a (l0, l1, l2)))) := by
  obtain ⟨b3, b13⟩ := prB_bd hp
  have HA := Lib.hid (fun (W : World) => l01Points_any n W ⟨by omega, by omega⟩)
  have HIn := Lib.hid (allP_in (n := n) (by omega))
  have HLen : (allP n).length ≤ 183 := by rw [allP_length]; have : n * n ≤ 13 * 13 := Nat.mul_le_mul (by omega) (by omega); omega
  have HPos : 0 < (allP n).length := by rw [allP_length]; omega
  have HO := Lib.hid (fun (x y z : Int) (W : World) (ha : In13 (x, y, z)) => l01On_any n x y z l0 l1 l2 W hp ha hl)
  obtain ⟨i0, hi, hz0, hz1, hz2⟩ := info_parts infoPo
  have HI0 := Lib.hid hi; have HZ0 := Lib.hid hz0; have HZ1 := Lib.hid hz1; have HZ2 := Lib.hid hz2
  clear hi hz0 hz1 hz2 hp hl b3 b13
  have HFd : Hid ((fun a => onB (n : Int) a (l0, l1, l2)) = fun a => onB (n : Int) a (l0, l1, l2)) := Lib.hid rfl
  go_enter Try.func97, Try.ntmps97
  go_wp2_with (go_at_call 69; refine (HA.out _).mono ?_; rintro e w1 ⟨v, rfl, ho, hb⟩; obtain ⟨g, cap, rfl, hg0, hg1, hpt⟩ := ownPts ho rfl HPos; have HB1 := Lib.hid hb; have HP1 := Lib.hid hpt; have hsz1 := hb.size; (try simp at hsz1); clear hb hpt ho)
  have hbl : w1.heap[w.heap.size]? = some (.cells #[.int .i64 l0, .int .i64 l1, .int .i64 l2] 24 (0, 0)) := by rw [HB1.out.block _ (by first | omega | (simp; done) | (simp; omega)), hn_at' _ _ _ (by simp)]
  have hll : w.heap.size < w1.heap.size := (Array.getElem?_eq_some_iff.1 hbl).1
  generalize hall : allP n = all at *
  go_loopw [6, 7] (fun v i wr => ∃ k : Nat, k ≤ all.length ∧ i = .int .i64 k ∧ Hid (wr.ownsRow w1.heap.size 23 3 v ((all.take k).filter (fun a => onB (n : Int) a (l0, l1, l2))).length (ptCs ((all.take k).filter (fun a => onB (n : Int) a (l0, l1, l2))))) ∧ Hid (Below w1.heap.size w1 wr)) (fun _ i wr => all.length - (intOf i).toNat)
  case atStart =>
    refine ⟨0, Nat.zero_le _, rfl, Lib.hid ?_, Lib.hid (by repeat (first | exact Below.refl _ _ | refine bset ?_ _ _ (by omega) _ | refine bal ?_ _ | refine bdrN ?_ _ | refine bdr ?_))⟩
    refine ⟨rfl, .inr ⟨w1.heap.size, 0, #[], rfl, Nat.le_refl _, heap_alloc_new _ _, Nat.le_refl _, by unfold maxLen; omega, rfl, rfl⟩⟩
  case round =>
    obtain ⟨k, hk, rfl, HR, HB⟩ := hrel
    by_cases hlt : k < all.length
    · have HS := Lib.hid (filter_snoc (fun a => onB (n : Int) a (l0, l1, l2)) all (0, 0, 0) k hlt)
      have HPk := HP1.out k hlt
      have HInk : In13 (all.getD k (0, 0, 0)) := HIn.out _ (by simp [List.getD, hlt])
      have hkl : ((all.take k).filter (fun a => onB (n : Int) a (l0, l1, l2))).length ≤ 183 := Nat.le_trans (List.length_filter_le _ _) (by rw [List.length_take]; omega)
      generalize all.getD k (0, 0, 0) = a at *
      obtain ⟨x, y, z⟩ := a
      have HC := Lib.hid (fun (W : World) => HO.out x y z W HInk)
      obtain ⟨c0, c1, c2⟩ := HPk
      simp only [Nat.zero_add] at c0 c1 c2
      go_wp2
      refine region_calm [(17, .int .i64 n), (18, .slice (some ⟨g, 0, none⟩) all.length cap), (19, .int .i64 k), (20, .pointer (some ⟨g, k * 3, none⟩)), (21, ptV x y z), (22, ptV l0 l1 l2), (23, .bool (onB n (x, y, z) (l0, l1, l2)))] (by kernel_rfl) (by kernel_rfl) (by kernel_rfl) (fun aE hpe => ?_)
      simp only [puts, Act.put, List.setIfInBounds_toArray, List.set_cons_zero, List.set_cons_succ] at hpe
      subst hpe
      refine ⟨⟨.inr (.inr ?_), .inr (.inr ?_), .inr (.inr ?_), .inr (.inr ?_), .inr (.inr ?_), .inr (.inr ?_), .inr (.inr ?_), trivial⟩, ?_⟩
      · exact Calm.mk 17 (.int .i64 n) rfl rfl (fun W _ => calm_move (.tmp 0) rfl rfl)
      · exact Calm.mk 18 (.slice (some ⟨g, 0, none⟩) all.length cap) rfl rfl (fun W _ => calm_move (.tmp 5) rfl rfl)
      · exact Calm.mk 19 (.int .i64 k) rfl rfl (fun W _ => calm_move (.tmp 7) rfl rfl)
      · exact Calm.mk 20 (.pointer (some ⟨g, k * 3, none⟩)) rfl rfl (fun W _ => calm_run (by simp [execOp, Act.eval, go_sem, hlt]))
      · exact Calm.mk 21 (ptV x y z) rfl rfl (fun W hW => calm_loadPt 23 (.tmp 20) rfl rfl (cell_below hW (cell_below HB.out c0)) (cell_below hW (cell_below HB.out c1)) (cell_below hW (cell_below HB.out c2)) Try.sizeOf23 Try.isAgg23)
      · exact Calm.mk 22 (ptV l0 l1 l2) rfl rfl (fun W hW => calm_load (cs := #[.int .i64 l0, .int .i64 l1, .int .i64 l2]) (g := w.heap.size) (T := 24) (fr := (0, 0)) 24 (.tmp 3) rfl rfl (by rw [hW.block _ (Nat.lt_of_lt_of_le hll HB.out.size), HB.out.block _ hll]; exact hbl) 3 rfl Try.sizeOf24 Try.isAgg24)
      · exact Calm.mk 23 (.bool (onB n (x, y, z) (l0, l1, l2))) rfl rfl (fun W hW => calm_call 70 _ #[.int .i64 n, ptV x y z, ptV l0 l1 l2] rfl rfl rfl (by simp [Act.eval]) (Try.call70 _ _) (HC.out W))
      intro W2 hW2
      have HR2 := Lib.hid (own_below HR.out hW2)
      have HB2 := Lib.hid (low_tr' HB.out hW2 HB.out.size)
      have e0 := cell_below hW2 (cell_below HB.out c0)
      have e1 := cell_below hW2 (cell_below HB.out c1)
      have e2 := cell_below hW2 (cell_below HB.out c2)
      clear hW2 HR HB c0 c1 c2 HC
      generalize hF : (all.take k).filter (fun a => onB (n : Int) a (l0, l1, l2)) = F at *
      cases hb : onB (n : Int) (x, y, z) (l0, l1, l2) with
      | true =>
        have HS2 : Hid ((all.take (k + 1)).filter (fun a => onB (n : Int) a (l0, l1, l2)) = F ++ [(x, y, z)]) := Lib.hid (by rw [HS.out]; simp [hb])
        clear HS hF
        go_wp2_with (at_builtin; refine wpList_append_own _ rfl _ _ 52 rfl w1.heap.size 23 i0 (.agg #[.int .i64 0, .int .i64 0, .int .i64 0]) 3 24 Try.underlying52 HI0.out HZ0.out HZ1.out HZ2.out rfl (by decide) _ _ _ rfl (HR2.out.alloc _) ⟨W2.heap.size, 0, none⟩ 1 1 [.int .i64 x, .int .i64 y, .int .i64 z] rfl rfl (newP _ _ _ _ _) (oneP _ _ _) (by unfold maxLen; omega) (by omega) (by have := HB2.out.size; simp; omega) ?_; intro v2 w2 hown hgrow _; have HO2 := Lib.hid hown; have HG := Lib.hid hgrow; clear hown hgrow)
        go_roundw
        case rel => exact ⟨k + 1, by omega, by go_num, Lib.hid (by rw [HS2.out, ptCs_snoc, List.length_append]; exact HO2.out), Lib.hid ((bal HB2.out _).grown HG.out (by have := HB2.out.size; simp; omega) (fun k' hk' => own_base' HR2.out k' hk'))⟩
        case measure => simp [intOf]; omega
      | false =>
        have HS2 : Hid ((all.take (k + 1)).filter (fun a => onB (n : Int) a (l0, l1, l2)) = F) := Lib.hid (by rw [HS.out]; simp [hb])
        clear HS hF
        go_wp2
        go_roundw
        case rel => exact ⟨k + 1, by omega, by go_num, Lib.hid (by rw [HS2.out]; exact HR2.out), HB2⟩
        case measure => simp [intOf]; omega
    · have hT : all.take k = all := List.take_of_length_le (by omega)
      rw [hT] at HR
      go_wp2
      go_ret
      have HB0 : Below w.heap.size w w1 := (by repeat (first | exact Below.refl _ _ | refine bset ?_ _ _ (by omega) _ | refine bal ?_ _ | refine bdrN ?_ _ | refine bdr ?_ | refine below_tr' ?_ HB1.out))
      exact ⟨u6, rfl, by rw [hall]; exact own_low HR.out HB0.size, low_tr' HB0 HB.out HB0.size⟩
end Go.Proofs.Ythkbhaaodegocaa
