/- Texts of the claim, in build order: OD1, RegT, G4, S7, T4, T5, LP1, OD2, GO5, GO3, GP1, GP2. No condition. -/
import Derived.Test.YtnpmdchphaenaaaZFnGroups7
/- Contracts: OrbitsOf, the reference's and the program's. -- maps -- gomaps -- classes -/
namespace Go.Proofs.Ytnpmdchphaenaaa
open Go.RowKit
set_option linter.unusedVariables false
set_option linter.unusedSimpArgs false
theorem l10Maps_none (p : Int) (b : Option Addr) (n k : Nat) (L : List M9) (w : World) (hn : n ≤ 1000000) (h : ListM w b n L) {v : Int} (hv : codeML p n (oksM p L && ptsB p []) = v) :
    Calls Try.prog 17 #[.int .i64 p, .slice b n k, .slice none 0 0] w (Ret w (.int .i64 v)) := by
  rw [← hv]; exact l10Maps_M p b n k L none 0 0 [] w hn (by decide) h (fun W _ => .inl ⟨rfl, rfl, rfl, rfl⟩)
theorem listCode_none (p : Int) (b : Option Addr) (n k : Nat) (L : List M9) (w : World) (hn : n ≤ 1000000) (h : ListM w b n L) {v : Int} (hv : codeML p n (oksM p L && ptsB p []) = v) :
    Calls Try.prog 15 #[.int .i64 p, .slice b n k, .slice none 0 0] w (Ret w (.int .i64 v)) := by
  rw [← hv]; exact listCode_M p b n k L none 0 0 [] w hn (by decide) h ⟨rfl, fun h => absurd h (Nat.lt_irrefl _)⟩
theorem ptCs_cells {W : World} {g n : Nat} {L : List Pt} (h : PtsK W g 0 n L) (hl : L.length = n) : ∀ j u, (ptCs L)[j]? = some u → W.cell? ⟨g, j, none⟩ = some u := by
  intro j u hj
  have hjl : j < (ptCs L).length := (List.getElem?_eq_some_iff.1 hj).1
  rw [ptCs_length] at hjl
  obtain ⟨a0, a1, a2⟩ := ptCs_at L (j / 3) (by omega)
  obtain ⟨c0, c1, c2⟩ := h.out (j / 3) (by omega)
  rw [Nat.zero_add] at c0 c1 c2
  have hm := Nat.mod_lt j (show 0 < 3 by decide)
  have hd := Nat.div_add_mod j 3
  rcases (show j % 3 = 0 ∨ j % 3 = 1 ∨ j % 3 = 2 by omega) with e | e | e
  · rw [show j = j / 3 * 3 by omega, a0] at hj; rw [show j = j / 3 * 3 by omega, c0]; exact hj
  · rw [show j = j / 3 * 3 + 1 by omega, a1] at hj; rw [show j = j / 3 * 3 + 1 by omega, c1]; exact hj
  · rw [show j = j / 3 * 3 + 2 by omega, a2] at hj; rw [show j = j / 3 * 3 + 2 by omega, c2]; exact hj
/-- An append of a list of points. -/
theorem wl_append_P {ops : Array Oper} {rest : List Oper} {o : Oper} {a : Act} {w : World} {Q : Exit → Act → World → Prop} {s x : Operand} {t e : TypeId} {g m c B n : Nat} {v : Value} {xs : List Value} {L : List Pt}
    (hown : OwnK w B e 3 v n xs) (hnew : PtsK w g 0 m L) (hL : L.length = m) (h63 : n + m ≤ 1000000) (hbase : B ≤ w.heap.size)
    (h : ∀ v' w', OwnK w' B e 3 v' (n + m) (xs ++ ptCs L) → Grew w v w' → (v'.ownBlock = v.ownBlock ∨ v'.ownBlock = some w.heap.size) → wpList Try.prog ops Q rest (a.put o.dst v') w')
    (hgd : o.guard = none := by exact rfl) (ho : o.op = .call { callee := .builtin .append, args := #[s, x], argTypes := #[t, t] } := by exact rfl) (he : EltK Try.prog t e 3 := by (first | exact eltPo | exact eltI64 | exact eltInt))
    (hs : a.eval s = v := by conv => lhs; whnf) (hx : a.eval x = .slice (some ⟨g, 0, none⟩) m c := by exact rfl) : wpList Try.prog ops Q (o :: rest) a w := by
  obtain ⟨hu, i, z, hi, hz, hsz, hzs, hpos, hle, hby⟩ := he.out
  refine wpList_append_own_at w hgd s x t ho B e i z 3 i.bytes hu hi hz hsz rfl hzs hpos v n xs hs hown.out ⟨g, 0, none⟩ m c (ptCs L) hx (by rw [ptCs_length, hL]) (fun j u hj => ?_) (ptCs_one L) (by unfold maxLen; omega) ?_ hbase (fun v' w' h2 h3 h4 h5 => h v' w' ⟨h2⟩ ⟨h3⟩ h5)
  · have hadd : (⟨g, 0, none⟩ : Addr).add j = ⟨g, j, none⟩ := by unfold Addr.add; split <;> simp_all
    rw [hadd]
    exact ptCs_cells hnew hL j u hj
  · exact Nat.le_trans (Nat.mul_le_mul h63 hby) (by decide)
theorem OwnK.ptsE {W : World} {B : Nat} {T : TypeId} {v : Value} {n : Nat} {l : List Pt} (h : OwnK W B T 3 v n (ptCs l)) (hl : l.length = n) : ∃ b cap, v = .slice b n cap ∧ PtsE W b n l := by
  obtain ⟨b, cap, e⟩ := h.form
  refine ⟨b, cap, e, hl, fun hn => ?_⟩
  obtain ⟨g, c, e2, -, -, hP⟩ := OwnK.pts h hl hn
  rw [e] at e2
  injection e2 with h1
  exact ⟨g, h1, hP⟩
theorem TabK.grewNe {W W' : World} {B : Nat} {T : List Row3} {u : Value} (hg : Grew W u W') (ho : ∀ t ∈ T, u.ownBlock ≠ some t.1) (h : TabK W B T) : TabK W' B T :=
  ⟨⟨fun t ht => ⟨(h.out.1 t ht).1, OwnK.grew hg (h.out.1 t ht).2 (fun b hb => by
    have e : t.1 = b := by simpa [Value.ownBlock, slV] using hb
    rw [← e]; exact ho t ht)⟩, h.out.2⟩⟩
/-- Points of the orbits of the classes' first ones. -/
def metL (cls : Nat → Nat) (orb : Nat → List Pt) : Nat → List Pt
  | 0 => []
  | i + 1 => if cls i = i then metL cls orb i ++ orb i else metL cls orb i
theorem metL_yes {cls : Nat → Nat} {orb : Nat → List Pt} {i : Nat} {S : List Pt} (h : cls i = i) (hS : orb i = S) : metL cls orb (i + 1) = metL cls orb i ++ S := by rw [← hS]; exact if_pos h
theorem metL_no {cls : Nat → Nat} {orb : Nat → List Pt} {i : Nat} (h : ¬ cls i = i) : metL cls orb (i + 1) = metL cls orb i := if_neg h
/-- Classes, their first points, their orbits. -/
structure ClsK (L : List Pt) (N : Nat) (cls : Nat → Nat) (orb : Nat → List Pt) : Prop where
  lab : ∀ q, cls q ≤ q ∧ cls (cls q) = cls q
  mem : ∀ i j, i < N → j < N → (L.getD j p0 ∈ orb i ↔ cls j = cls i)
  len : ∀ i, i < N → (orb i).length ≤ 183
theorem ClsK.met {L : List Pt} {N : Nat} {cls : Nat → Nat} {orb : Nat → List Pt} (h : ClsK L N cls orb) {j : Nat} (hj : j < N) : ∀ i, i ≤ N → (L.getD j p0 ∈ metL cls orb i ↔ cls j < i)
  | 0, _ => by simp [metL]
  | i + 1, hi => by
    have ih := h.met hj i (by omega)
    have hl := h.lab j
    by_cases e : cls i = i
    · rw [metL_yes e rfl, List.mem_append, ih, h.mem i j (by omega) hj, e]; omega
    · rw [metL_no e, ih]
      constructor
      · intro h2; omega
      · intro h2
        by_cases e2 : cls j = i
        · rw [← e2] at e; exact absurd hl.2 e
        · omega
theorem ClsK.mlen {L : List Pt} {N : Nat} {cls : Nat → Nat} {orb : Nat → List Pt} (h : ClsK L N cls orb) : ∀ i, i ≤ N → (metL cls orb i).length ≤ 183 * i
  | 0, _ => Nat.le_refl _
  | i + 1, hi => by
    have := h.mlen i (by omega)
    by_cases e : cls i = i
    · rw [metL_yes e rfl, List.length_append]; have := h.len i (by omega); omega
    · rw [metL_no e]; omega
theorem ClsK.first {L : List Pt} {N : Nat} {cls : Nat → Nat} {orb : Nat → List Pt} (h : ClsK L N cls orb) {i : Nat} : ∀ k, k ≤ i → filtP cls L i k = []
  | 0, _ => rfl
  | k + 1, hk => by rw [filtP_no (by have := (h.lab k).1; omega)]; exact h.first k (by omega)
theorem ClsK.none {L : List Pt} {N : Nat} {cls : Nat → Nat} {orb : Nat → List Pt} (h : ClsK L N cls orb) {i : Nat} (hi : ¬ cls i = i) : ∀ k, filtP cls L i k = []
  | 0 => rfl
  | k + 1 => by rw [filtP_no (fun e => hi (by have := (h.lab k).2; rw [e] at this; exact this))]; exact h.none hi k
theorem ClsK.some {L : List Pt} {N : Nat} {cls : Nat → Nat} {orb : Nat → List Pt} (h : ClsK L N cls orb) {i : Nat} (hi : cls i = i) (hN : i < N) : 0 < (filtP cls L i N).length := List.length_pos_of_mem (filtP_mem.2 ⟨i, hN, hi, rfl⟩)
theorem cls_K {n : Nat} {ms : List M9} (h : MsOk n ms) : ∃ orb, ClsK (allP n) (allP n).length (classP n ms) orb ∧ ∀ i, i < (allP n).length → ∃ K, WholeP n ms ((allP n).getD i p0) K ∧ seqP n ms ((allP n).getD i p0) K = orb i := by
  have hex : ∀ i : Nat, ∃ S : List Pt, i < (allP n).length → ∃ K, WholeP n ms ((allP n).getD i p0) K ∧ seqP n ms ((allP n).getD i p0) K = S := fun i => by
    by_cases hi : i < (allP n).length
    · obtain ⟨K, hK⟩ := whole_P h (getD_mem (d := p0) hi)
      exact ⟨_, fun _ => ⟨K, hK, rfl⟩⟩
    · exact ⟨[], fun h => absurd h hi⟩
  obtain ⟨orb, horb⟩ := Classical.axiomOfChoice hex
  refine ⟨orb, ⟨classP_lab n ms, fun i j hi hj => ?_, fun i hi => ?_⟩, horb⟩
  · obtain ⟨K, hK, e⟩ := horb i hi
    rw [← e, ← class_P h hi hj hK]
    exact ⟨fun e => e.symm, fun e => e.symm⟩
  · obtain ⟨K, hK, e⟩ := horb i hi
    rw [← e]
    have hr : RunP n ms ((allP n).getD i p0) K := hK.run
    exact len183 h.n13.2 (seqP_nodup n ms _ K) (hr.in h (getD_mem hi))
theorem l01Points_K (n : Nat) (w : World) (h : 3 ≤ n ∧ n ≤ 13) : Calls Try.prog 18 #[.int .i64 (n : Int)] w (fun e w' => ∃ g cap, e = .returned (.slice (some ⟨g, 0, none⟩) (allP n).length cap) ∧ w.heap.size ≤ g ∧ g < w'.heap.size ∧ PtsK w' g 0 (allP n).length (allP n) ∧ LowK w w') :=
  (l01Points_any n w h).mono fun e w' hp => by
    obtain ⟨v, rfl, ho, hb⟩ := hp.out
    obtain ⟨g, cap, rfl, h1, h2, h3⟩ := OwnK.pts ⟨ho⟩ rfl (by rw [allP_length]; omega)
    exact ⟨g, cap, rfl, h1, h2, h3, ⟨hb⟩⟩
/-- A table and a code. -/
def TabPost3 (w : World) (Ls : List (List Pt)) (e : Ending) (w' : World) : Prop := ∃ b c T, e = .returned (.tuple #[.slice b T.length c, .int .i64 0]) ∧ T.map (·.2.2) = Ls ∧ TabK w' w.heap.size T ∧ OwnK w' w.heap.size 39 1 (.slice b T.length c) T.length (tabV T) ∧ LowK w w'
set_option pp.deepTerms false
set_option pp.deepTerms.threshold 10
set_option maxRecDepth 20000 in
set_option maxHeartbeats 8000000 in
theorem OrbitsOf_spec_core (n N : Nat) (L : List Pt) (b : Option Addr) (k c : Nat) (ms : List M9) (w : World) (h : MsOk n ms) (hk : k ≤ 8) (hms : ListM w b k ms) (hcode : codeML (n : Int) k (oksM (n : Int) ms && ptsB (n : Int) []) = 0) (hL : allP n = L) (hN : L.length = N) :
    Calls Try.prog 7 #[.int .i64 (n : Int), .slice b k c] w (TabPost3 w (tabL (classP n ms) L N N)) := by
  obtain ⟨h3, h13⟩ := h.n13
  have hN183 : N ≤ 183 := by rw [← hN, ← hL]; exact allP_len183 h13
  have hN0 : 0 < N := by rw [← hN, ← hL, allP_length]; omega
  have HV := Lib.hid hcode
  have HAP := Lib.hid (fun w => l01Points_K n w h.n13)
  obtain ⟨orb, hCK, horb⟩ := cls_K h
  have HOR := Lib.hid (fun (w : World) (hms : ListM w b k ms) (i : Nat) (hi : i < (allP n).length) => (show Calls Try.prog 20 #[.int .i64 (n : Int), .slice b k c, pV ((allP n).getD i p0)] w (OrbPost w (orb i)) from by
    obtain ⟨K, hK, e⟩ := horb i hi
    exact Orbit_S n b k c ms _ K (orb i) w h hk hms (getD_mem hi) hK e))
  rw [hL, hN] at HAP hCK HOR
  have HC := Lib.hid hCK
  have HN := Lib.hid hN
  obtain ⟨cls, hcls⟩ : ∃ cls, classP n ms = cls := ⟨_, rfl⟩
  rw [hcls] at HC ⊢
  clear h hL hN hcode hCK horb hcls
  go_enter Try.func7, Try.ntmps7
  go_wp2_with (first | (refine wl_loadJ ?_) | (refine wl_load ?_) | (refine wl_loadM ?_) | (refine wl_storeJ ?_) | (refine wl_mapNewP ?_) | (refine wl_mapUpdP (L := ?_) ?_ ?_ ?_ ?_ (ho := .inl rfl); rotate_left 2; exact findGomP; assumption; assumption; intro Wm hMm hTm; have hs := hTm.out.1; (try simp at hs); (try have hOm := OwnK.turnP hTm findGomP findOwn); (try have hVm := LowK.turnP hTm (by assumption) findLow)) | (refine wl_fill1 ?_) | (refine wl_fill2 ?_) | (refine wl_storeM ?_) | (refine wl_makeM ?_; intro gm W' hgm hl hT; have hs := hl.out.size; (try simp at hs)) | (refine wl_store (h1 := mC_one _) ?_) | (refine wl_sliceM ?_) | (refine wl_append (he := eltMp) (h1 := mC_one _) ?_; intro v' w' ho hg hb; have hs := hg.size; (try simp at hs); rw [mCs_snoc] at ho; (try obtain ⟨gz, cz, rfl, hzb, hzl, -⟩ := OwnK.maps ho (by simp) (by omega))) | (refine wl_mapLook true ?_ (hM := findGom) (hv := by (first | exact decide_eq_true (by assumption)))) | (refine wl_mapLook false ?_ (hM := findGom) (hv := by (first | exact decide_eq_false (by assumption)))) | (refine wl_store ?_) | (refine wl_build ?_) | (refine wl_slice ?_) | (refine wl_append (he := eltSp) ?_; intro v' w' ho hg hb; have hs := hg.size; (try simp at hs)) | (refine wl_append ?_; intro v' w' ho hg hb; have hs := hg.size; (try simp at hs); (try rw [ptCs_end] at ho); (try rw [ints_end] at ho); (try simp only [Nat.zero_add, Nat.reduceAdd, List.nil_append, List.cons_append] at ho)) | (go_at_call 17; (with_reducible refine (l10Maps_none n b k c ms _ (by omega) (hms.link (LowK.lnk findLow)) HV.out).mono ?_); rintro e w' ⟨rfl, hb⟩; have hl := Link.mk hb; have hs := hb.size; (try simp at hs); clear hb) | (go_at_call 18; (with_reducible refine (HAP.out _).mono ?_); rintro e Wp ⟨gp, cp, rfl, hgp, hgp2, hPt, hV1⟩; have hl1 := LowK.lnk hV1; have hs := hV1.size))
  have hV0 : LowK w Wp := findLow
  have hr8 : RowK ((Wp.alloc (.cells #[] 34)).alloc (.cells #[] 39)) Wp.heap.size #[] 34 := findRow
  have hr9 : RowK ((Wp.alloc (.cells #[] 34)).alloc (.cells #[] 39)) (Wp.heap.size + 1) #[] 39 := findRow
  have hO8 : OwnK ((Wp.alloc (.cells #[] 34)).alloc (.cells #[] 39)) Wp.heap.size 34 3 (.slice (some ⟨Wp.heap.size, 0, none⟩) 0 0) (metL cls orb 0).length (ptCs (metL cls orb 0)) := OwnK.empty hr8 (Nat.le_refl _)
  have hO9 : OwnK ((Wp.alloc (.cells #[] 34)).alloc (.cells #[] 39)) Wp.heap.size 39 1 (.slice (some ⟨Wp.heap.size + 1, 0, none⟩) 0 0) 0 (tabV []) := OwnK.empty hr9 (by omega)
  have hV2 : LowK Wp ((Wp.alloc (.cells #[] 34)).alloc (.cells #[] 39)) := findLow
  have hT0 : TabK ((Wp.alloc (.cells #[] 34)).alloc (.cells #[] 39)) Wp.heap.size [] := TabK.nil _ _
  have hsz2 : Wp.heap.size ≤ ((Wp.alloc (.cells #[] 34)).alloc (.cells #[] 39)).heap.size := hV2.size
  clear hr8 hr9
  generalize (Wp.alloc (.cells #[] 34)).alloc (.cells #[] 39) = W2 at *
  obtain ⟨B, hB⟩ : ∃ B, Wp.heap.size = B := ⟨_, rfl⟩
  have hBw := Nat.le_of_eq hB
  have hBw2 := Nat.le_of_eq hB.symm
  rw [hB] at hO8 hO9 hsz2 hT0 ⊢
  generalize B + 1 = B1 at *
  obtain ⟨gz, hgz⟩ : ∃ gz, gz = B := ⟨_, rfl⟩
  clear hB
  go_loopw [8, 9, 10] (fun v8 v9 iv wr => ∃ (i : Nat) (T : List Row3), i ≤ N ∧ iv = .int .i64 (i : Int) ∧ OwnK wr B 34 3 v8 (metL cls orb i).length (ptCs (metL cls orb i)) ∧ T.map (·.2.2) = tabL cls L N i ∧ TabK wr B T ∧ OwnK wr B 39 1 v9 T.length (tabV T) ∧ (∀ t ∈ T, v8.ownBlock ≠ some t.1) ∧ LowK Wp wr ∧ B ≤ wr.heap.size) (fun _ _ iv wr => N - (intOf iv).toNat)
  case atStart => exact ⟨0, [], Nat.zero_le _, rfl, hO8, rfl, hT0, hO9, (fun t ht => absurd ht (by simp)), findLow, (by first | omega | (simp; omega))⟩
  case round =>
    clear hO8 hO9 hT0 hV2 hsz2
    obtain ⟨i, T, hi, rfl, hO8, hTL, hT, hO9, hne, hV, hsz⟩ := hrel
    have hTn : T.length ≤ i := by have := congrArg List.length hTL; rw [List.length_map] at this; rw [this]; exact tabL_len cls L N i
    have hml := HC.out.mlen i hi
    obtain ⟨W3, hW3⟩ : ∃ W3, W3 = wr := ⟨_, rfl⟩
    subst hW3
    obtain ⟨b8, c8, rfl, hE8⟩ := OwnK.ptsE hO8 rfl
    have hPr := PtsK.link (LowK.lnk hV) hPt
    have hVw := LowK.link (LowK.lnk hV) hV0
    by_cases hlt : i < N
    · obtain ⟨t, ht⟩ : ∃ t, L.getD i (0, 0, 0) = t := ⟨_, rfl⟩
      have hmm := HC.out.met hlt i hi
      rw [show L.getD i p0 = t from ht] at hmm
      have HO := Lib.hid (fun (w : World) (hms : ListM w b k ms) => HOR.out w hms i hlt)
      rw [show L.getD i p0 = t from ht] at HO
      have hli := (HC.out.lab i).1
      obtain ⟨M, hM⟩ : ∃ M, metL cls orb i = M := ⟨_, rfl⟩
      rw [hM] at hmm hml hE8 hO8 hne ⊢
      by_cases he : cls i = i
      · have HU : Hid (decide (t ∈ M) = false) := Lib.hid (by rw [decide_eq_false_iff_not, hmm]; omega)
        obtain ⟨S, hS⟩ : ∃ S, orb i = S := ⟨_, rfl⟩
        have hSl : S.length ≤ 183 := by rw [← hS]; exact HC.out.len i hlt
        have HSM := Lib.hid (fun j (hj : j < N) => HC.out.mem i j hlt hj)
        rw [hS, he] at HSM
        rw [hS] at HO
        have HMY := Lib.hid (metL_yes (orb := orb) he hS)
        rw [hM] at HMY
        have HF0 := Lib.hid (HC.out.first i (Nat.le_refl i))
        have HFP := Lib.hid (HC.out.some he hlt)
        have HTY := Lib.hid (tabL_yes rfl HFP.out)
        clear hmm hM hS he
        go_wp2_with (first | (refine wl_loadJ ?_) | (refine wl_load ?_) | (refine wl_loadM ?_) | (refine wl_storeJ ?_) | (refine wl_mapNewP ?_) | (refine wl_mapUpdP (L := ?_) ?_ ?_ ?_ ?_ (ho := .inl rfl); rotate_left 2; exact findGomP; assumption; assumption; intro Wm hMm hTm; have hs := hTm.out.1; (try simp at hs); (try have hOm := OwnK.turnP hTm findGomP findOwn); (try have hVm := LowK.turnP hTm (by assumption) findLow)) | (refine wl_fill1 ?_) | (refine wl_fill2 ?_) | (refine wl_storeM ?_) | (refine wl_makeM ?_; intro gm W' hgm hl hT; have hs := hl.out.size; (try simp at hs)) | (refine wl_store (h1 := mC_one _) ?_) | (refine wl_sliceM ?_) | (refine wl_append (he := eltMp) (h1 := mC_one _) ?_; intro v' w' ho hg hb; have hs := hg.size; (try simp at hs); rw [mCs_snoc] at ho; (try obtain ⟨gz, cz, rfl, hzb, hzl, -⟩ := OwnK.maps ho (by simp) (by omega))) | (refine wl_mapLook true ?_ (hM := findGom) (hv := by (first | exact decide_eq_true (by assumption)))) | (refine wl_mapLook false ?_ (hM := findGom) (hv := by (first | exact decide_eq_false (by assumption)))) | (refine wl_store ?_) | (refine wl_build ?_) | (refine wl_slice ?_) | (refine wl_append (he := eltSp) ?_; intro v' w' ho hg hb; have hs := hg.size; (try simp at hs)) | (refine wl_append ?_; intro v' w' ho hg hb; have hs := hg.size; (try simp at hs); (try rw [ptCs_end] at ho); (try rw [ints_end] at ho); (try simp only [Nat.zero_add, Nat.reduceAdd, List.nil_append, List.cons_append] at ho)) | (go_at_call 19; (with_reducible refine (Has_P t _ _ _ M _ (by omega) hE8 HU.out).mono ?_); rintro e w' ⟨rfl, hb⟩; have hl := Link.mk hb; have hs := hb.size; (try simp at hs); clear hb) | (go_at_call 20; (with_reducible refine (HO.out _ (hms.link (LowK.lnk findLow))).mono ?_); rintro e w4 ⟨go, co, rfl, hoS, hbS, hPS⟩; have hl2 := LowK.lnk hbS; have hs := hbS.size))
        have hV4 : LowK W3 w4 := findLow
        have hO8' := hO8.link (LowK.lnk hV4)
        have hO9' := hO9.link (LowK.lnk hV4)
        have hT' := hT.link (LowK.lnk hV4)
        have hP4 := PtsK.link (LowK.lnk hV4) hPr
        have hVw4 : LowK Wp w4 := LowK.link (LowK.lnk hV4) hV
        have hr5 : RowK (w4.alloc (.cells #[] 34)) w4.heap.size #[] 34 := findRow
        have hO5 : OwnK (w4.alloc (.cells #[] 34)) w4.heap.size 34 3 (.slice (some ⟨w4.heap.size, 0, none⟩) 0 0) (filtP cls L i i).length (ptCs (filtP cls L i i)) := by rw [HF0.out]; exact OwnK.empty hr5 (Nat.le_refl _)
        have hV5 : LowK w4 (w4.alloc (.cells #[] 34)) := findLow
        have hsz5 : w4.heap.size ≤ (w4.alloc (.cells #[] 34)).heap.size := hV5.size
        have hTlt : ∀ t ∈ T, t.1 < w4.heap.size := fun t ht => hT'.lt ht
        have h8lt : ∀ z, (Value.slice b8 M.length c8).ownBlock = some z → z < w4.heap.size := fun z hz => hO8'.lt z hz
        have hB4sz : B ≤ w4.heap.size := by have := hV4.size; omega
        clear hr5 hO8 hO9 hT hE8 hl2 hV4 hoS hbS hPr
        generalize w4.alloc (.cells #[] 34) = W5 at *
        obtain ⟨B4, hB4⟩ : ∃ B4, w4.heap.size = B4 := ⟨_, rfl⟩
        have hBd := Nat.le_of_eq hB4
        have hBd2 := Nat.le_of_eq hB4.symm
        rw [hB4] at hO5 hsz5 hTlt h8lt ⊢
        obtain ⟨gy, hgy⟩ : ∃ gy, gy = B4 := ⟨_, rfl⟩
        have HTL := Lib.hid hTlt
        have H8L := Lib.hid h8lt
        have HNE := Lib.hid hne
        clear hB4 hTlt h8lt hne
        go_loopw [12, 13] (fun v kv wl => ∃ q : Nat, q ≤ N ∧ kv = .int .i64 (q : Int) ∧ OwnK wl B4 34 3 v (filtP cls L i q).length (ptCs (filtP cls L i q)) ∧ LowK w4 wl ∧ B4 ≤ wl.heap.size) (fun _ kv wl => N - (intOf kv).toNat)
        case atStart => exact ⟨i, by omega, rfl, hO5, findLow, (by first | omega | (simp; omega))⟩
        case round =>
          clear hO5 hV5 hsz5
          obtain ⟨q, hq, rfl, hO5, hV5, hsz5⟩ := hrel
          have hfl := filtP_len cls L i q
          have hPq := PtsK.link (LowK.lnk hV5) hP4
          have hSq := PtsK.link (LowK.lnk hV5) hPS
          by_cases hlq : q < N
          · obtain ⟨s, hs2⟩ : ∃ s, L.getD q (0, 0, 0) = s := ⟨_, rfl⟩
            have hmq := HSM.out q hlq
            rw [show L.getD q p0 = s from hs2] at hmq
            by_cases he : cls q = i
            · have HU2 : Hid (decide (s ∈ S) = true) := Lib.hid (by rw [decide_eq_true_iff, hmq]; exact he)
              have HF := Lib.hid (filtP_yes (L := L) he (show L.getD q p0 = s from hs2))
              clear he hmq
              generalize filtP cls L i q = fl at *
              go_wp2_with (first | (refine wl_loadJ ?_) | (refine wl_load ?_) | (refine wl_loadM ?_) | (refine wl_storeJ ?_) | (refine wl_mapNewP ?_) | (refine wl_mapUpdP (L := ?_) ?_ ?_ ?_ ?_ (ho := .inl rfl); rotate_left 2; exact findGomP; assumption; assumption; intro Wm hMm hTm; have hs := hTm.out.1; (try simp at hs); (try have hOm := OwnK.turnP hTm findGomP findOwn); (try have hVm := LowK.turnP hTm (by assumption) findLow)) | (refine wl_fill1 ?_) | (refine wl_fill2 ?_) | (refine wl_storeM ?_) | (refine wl_makeM ?_; intro gm W' hgm hl hT; have hs := hl.out.size; (try simp at hs)) | (refine wl_store (h1 := mC_one _) ?_) | (refine wl_sliceM ?_) | (refine wl_append (he := eltMp) (h1 := mC_one _) ?_; intro v' w' ho hg hb; have hs := hg.size; (try simp at hs); rw [mCs_snoc] at ho; (try obtain ⟨gz, cz, rfl, hzb, hzl, -⟩ := OwnK.maps ho (by simp) (by omega))) | (refine wl_mapLook true ?_ (hM := findGom) (hv := by (first | exact decide_eq_true (by assumption)))) | (refine wl_mapLook false ?_ (hM := findGom) (hv := by (first | exact decide_eq_false (by assumption)))) | (refine wl_store ?_) | (refine wl_build ?_) | (refine wl_slice ?_) | (refine wl_append (he := eltSp) ?_; intro v' w' ho hg hb; have hs := hg.size; (try simp at hs)) | (refine wl_append ?_; intro v' w' ho hg hb; have hs := hg.size; (try simp at hs); (try rw [ptCs_end] at ho); (try rw [ints_end] at ho); (try simp only [Nat.zero_add, Nat.reduceAdd, List.nil_append, List.cons_append] at ho)) | (go_at_call 19; (with_reducible refine (Has_P s _ _ _ S _ (by omega) (PtsE.of rfl hSq) HU2.out).mono ?_); rintro e w' ⟨rfl, hb⟩; have hl := Link.mk hb; have hs := hb.size; (try simp at hs); clear hb))
              go_roundw
              case rel => exact ⟨q + 1, by omega, by go_num, by rw [HF.out, List.length_append]; exact ho, findLow, (by first | omega | (simp; omega))⟩
              case measure => (simp [intOf]; try omega)
            · have HU2 : Hid (decide (s ∈ S) = false) := Lib.hid (by rw [decide_eq_false_iff_not, hmq]; exact he)
              have HF := Lib.hid (filtP_no (L := L) he)
              clear he hmq
              go_wp2_with (first | (refine wl_loadJ ?_) | (refine wl_load ?_) | (refine wl_loadM ?_) | (refine wl_storeJ ?_) | (refine wl_mapNewP ?_) | (refine wl_mapUpdP (L := ?_) ?_ ?_ ?_ ?_ (ho := .inl rfl); rotate_left 2; exact findGomP; assumption; assumption; intro Wm hMm hTm; have hs := hTm.out.1; (try simp at hs); (try have hOm := OwnK.turnP hTm findGomP findOwn); (try have hVm := LowK.turnP hTm (by assumption) findLow)) | (refine wl_fill1 ?_) | (refine wl_fill2 ?_) | (refine wl_storeM ?_) | (refine wl_makeM ?_; intro gm W' hgm hl hT; have hs := hl.out.size; (try simp at hs)) | (refine wl_store (h1 := mC_one _) ?_) | (refine wl_sliceM ?_) | (refine wl_append (he := eltMp) (h1 := mC_one _) ?_; intro v' w' ho hg hb; have hs := hg.size; (try simp at hs); rw [mCs_snoc] at ho; (try obtain ⟨gz, cz, rfl, hzb, hzl, -⟩ := OwnK.maps ho (by simp) (by omega))) | (refine wl_mapLook true ?_ (hM := findGom) (hv := by (first | exact decide_eq_true (by assumption)))) | (refine wl_mapLook false ?_ (hM := findGom) (hv := by (first | exact decide_eq_false (by assumption)))) | (refine wl_store ?_) | (refine wl_build ?_) | (refine wl_slice ?_) | (refine wl_append (he := eltSp) ?_; intro v' w' ho hg hb; have hs := hg.size; (try simp at hs)) | (refine wl_append ?_; intro v' w' ho hg hb; have hs := hg.size; (try simp at hs); (try rw [ptCs_end] at ho); (try rw [ints_end] at ho); (try simp only [Nat.zero_add, Nat.reduceAdd, List.nil_append, List.cons_append] at ho)) | (go_at_call 19; (with_reducible refine (Has_P s _ _ _ S _ (by omega) (PtsE.of rfl hSq) HU2.out).mono ?_); rintro e w' ⟨rfl, hb⟩; have hl := Link.mk hb; have hs := hb.size; (try simp at hs); clear hb))
              go_roundw
              case rel => exact ⟨q + 1, by omega, by go_num, by rw [HF.out]; exact findOwn, findLow, (by first | omega | (simp; omega))⟩
              case measure => (simp [intOf]; try omega)
          · obtain rfl : N = q := by omega
            obtain ⟨fl, hfl2⟩ : ∃ fl, filtP cls L i N = fl := ⟨_, rfl⟩
            have hpos := HFP.out
            rw [hfl2] at hO5 hfl hpos HTY
            obtain ⟨g, cap, rfl, hgl, hgl2, -⟩ := OwnK.pts hO5 rfl hpos
            have hO8 := hO8'.link (LowK.lnk hV5)
            have hO9 := hO9'.link (LowK.lnk hV5)
            have hT := hT'.link (LowK.lnk hV5)
            have hVf := LowK.link (LowK.lnk hV5) hVw4
            clear hfl2 hO8' hO9' hT'
            go_wp2_with (first | (refine wl_append_P (hown := hO8) (hnew := hSq) (hL := rfl) (h63 := by omega) (hbase := by omega) ?_; intro v8 w5 ho8 hg8 hb8; have hs8 := hg8.size; have h9 := OwnK.grew hg8 hO9 (fun z hz => own_types hO9 hO8 (by decide) z hz); have h5 := OwnK.grew hg8 hO5 (fun z hz hz2 => by have := hO5.base z hz; have := H8L.out z hz2; omega); have hTt := TabK.grewNe hg8 HNE.out hT; have hVg := LowK.grewB hg8 hO8 hBw hVf) | (refine wl_append (he := eltSp) ?_; intro v' w' ho hg hb; have hs := hg.size; (try simp at hs)))
            go_roundw
            case rel =>
              refine ⟨i + 1, T ++ [(g, cap, fl)], by omega, by go_num, ?_, by rw [List.map_append, hTL, HTY.out]; rfl, TabK.snoc (TabK.grew hg (h9.alloc _) (hTt.link (LowK.lnk findLow))) hpos (OwnK.lower (by omega) (OwnK.grew hg (h5.alloc _) (fun z hz => own_types h5 h9 (by decide) z hz))) (fun t ht => by have := HTL.out t ht; omega), by rw [List.length_append, ← tabV_snoc]; exact ho, fun t ht => ?_, findLow, (by first | omega | (simp; omega))⟩
              · rw [HMY.out, List.length_append, ptCs_app]
                exact OwnK.grew hg (ho8.alloc _) (fun z hz => own_types ho8 h9 (by decide) z hz)
              · intro e
                have hlt9 : t.1 < wr.heap.size ∧ (t ∈ T ∨ t.1 = g) := by
                  rcases List.mem_append.1 ht with h | h
                  · exact ⟨hT.lt h, .inl h⟩
                  · rw [List.mem_singleton.1 h]; exact ⟨hgl2, .inr rfl⟩
                rcases hb8 with h | h
                · rw [h] at e
                  rcases hlt9.2 with h2 | h2
                  · exact HNE.out t h2 e
                  · have := H8L.out _ e; omega
                · rw [h] at e
                  have := Option.some.inj e
                  omega
            case measure => (simp [intOf]; try omega)
      · have HU : Hid (decide (t ∈ M) = true) := Lib.hid (by rw [decide_eq_true_iff, hmm]; omega)
        have HMN := Lib.hid (metL_no (orb := orb) he)
        rw [hM] at HMN
        have HTN := Lib.hid (tabL_no (N := N) (HC.out.none he N) (by simp))
        clear hmm hM he
        go_wp2_with (first | (refine wl_loadJ ?_) | (refine wl_load ?_) | (refine wl_loadM ?_) | (refine wl_storeJ ?_) | (refine wl_mapNewP ?_) | (refine wl_mapUpdP (L := ?_) ?_ ?_ ?_ ?_ (ho := .inl rfl); rotate_left 2; exact findGomP; assumption; assumption; intro Wm hMm hTm; have hs := hTm.out.1; (try simp at hs); (try have hOm := OwnK.turnP hTm findGomP findOwn); (try have hVm := LowK.turnP hTm (by assumption) findLow)) | (refine wl_fill1 ?_) | (refine wl_fill2 ?_) | (refine wl_storeM ?_) | (refine wl_makeM ?_; intro gm W' hgm hl hT; have hs := hl.out.size; (try simp at hs)) | (refine wl_store (h1 := mC_one _) ?_) | (refine wl_sliceM ?_) | (refine wl_append (he := eltMp) (h1 := mC_one _) ?_; intro v' w' ho hg hb; have hs := hg.size; (try simp at hs); rw [mCs_snoc] at ho; (try obtain ⟨gz, cz, rfl, hzb, hzl, -⟩ := OwnK.maps ho (by simp) (by omega))) | (refine wl_mapLook true ?_ (hM := findGom) (hv := by (first | exact decide_eq_true (by assumption)))) | (refine wl_mapLook false ?_ (hM := findGom) (hv := by (first | exact decide_eq_false (by assumption)))) | (refine wl_store ?_) | (refine wl_build ?_) | (refine wl_slice ?_) | (refine wl_append (he := eltSp) ?_; intro v' w' ho hg hb; have hs := hg.size; (try simp at hs)) | (refine wl_append ?_; intro v' w' ho hg hb; have hs := hg.size; (try simp at hs); (try rw [ptCs_end] at ho); (try rw [ints_end] at ho); (try simp only [Nat.zero_add, Nat.reduceAdd, List.nil_append, List.cons_append] at ho)) | (go_at_call 19; (with_reducible refine (Has_P t _ _ _ M _ (by omega) hE8 HU.out).mono ?_); rintro e w' ⟨rfl, hb⟩; have hl := Link.mk hb; have hs := hb.size; (try simp at hs); clear hb))
        go_roundw
        case rel => exact ⟨i + 1, T, by omega, by go_num, by rw [HMN.out]; exact findOwn, by rw [HTN.out]; exact hTL, hT.link (LowK.lnk findLow), findOwn, hne, findLow, (by first | omega | (simp; omega))⟩
        case measure => (simp [intOf]; try omega)
    · obtain rfl : N = i := by omega
      obtain ⟨b9, c9, rfl⟩ := hO9.form
      go_wp2_with (first | (refine wl_loadJ ?_) | (refine wl_load ?_) | (refine wl_loadM ?_) | (refine wl_storeJ ?_) | (refine wl_mapNewP ?_) | (refine wl_mapUpdP (L := ?_) ?_ ?_ ?_ ?_ (ho := .inl rfl); rotate_left 2; exact findGomP; assumption; assumption; intro Wm hMm hTm; have hs := hTm.out.1; (try simp at hs); (try have hOm := OwnK.turnP hTm findGomP findOwn); (try have hVm := LowK.turnP hTm (by assumption) findLow)) | (refine wl_fill1 ?_) | (refine wl_fill2 ?_) | (refine wl_storeM ?_) | (refine wl_makeM ?_; intro gm W' hgm hl hT; have hs := hl.out.size; (try simp at hs)) | (refine wl_store (h1 := mC_one _) ?_) | (refine wl_sliceM ?_) | (refine wl_append (he := eltMp) (h1 := mC_one _) ?_; intro v' w' ho hg hb; have hs := hg.size; (try simp at hs); rw [mCs_snoc] at ho; (try obtain ⟨gz, cz, rfl, hzb, hzl, -⟩ := OwnK.maps ho (by simp) (by omega))) | (refine wl_mapLook true ?_ (hM := findGom) (hv := by (first | exact decide_eq_true (by assumption)))) | (refine wl_mapLook false ?_ (hM := findGom) (hv := by (first | exact decide_eq_false (by assumption)))) | (refine wl_store ?_) | (refine wl_build ?_) | (refine wl_slice ?_) | (refine wl_append (he := eltSp) ?_; intro v' w' ho hg hb; have hs := hg.size; (try simp at hs)) | (refine wl_append ?_; intro v' w' ho hg hb; have hs := hg.size; (try simp at hs); (try rw [ptCs_end] at ho); (try rw [ints_end] at ho); (try simp only [Nat.zero_add, Nat.reduceAdd, List.nil_append, List.cons_append] at ho)))
      (apply ret_two Try.results7; (conv => lhs; whnf); (conv => lhs; whnf); exact rfl)
      have hwB : w.heap.size ≤ B := by have := hV0.size; omega
      exact ⟨b9, c9, T, rfl, hTL, TabK.lower hwB hT, OwnK.lower hwB hO9, hVw⟩
end Go.Proofs.Ytnpmdchphaenaaa
/- A region that draws its order and stores once into a block that is there: all other blocks are as they were. -/
namespace Go.Proofs.Ytnpmdchphaenaaa
open Go.RowKit
set_option linter.unusedVariables false
set_option linter.unusedSimpArgs false
/-- All blocks but one are as they were. -/
structure Save (g0 : Nat) (w W : World) : Prop where
  os : W.os = w.os
  tape : W.tape = w.tape
  output : W.output = w.output
  size : w.heap.size ≤ W.heap.size
  block : ∀ k, k < w.heap.size → k ≠ g0 → W.heap[k]? = w.heap[k]?
theorem Save.tr {g0 : Nat} {w W W' : World} (h : Save g0 w W) (hb : Below W.heap.size W W') : Save g0 w W' :=
  ⟨hb.os.trans h.os, hb.tape.trans h.tape, hb.output.trans h.output, Nat.le_trans h.size hb.size, fun k hk hne => (hb.block k (Nat.lt_of_lt_of_le hk h.size)).trans (h.block k hk hne)⟩
theorem Save.setRow {g0 : Nat} {w W : World} (h : Save g0 w W) (cs : Array Value) : Save g0 w (W.setRow g0 cs) :=
  ⟨h.os, h.tape, h.output, by simpa [World.setRow] using h.size, fun k hk hne => (setRow_other W g0 k cs hne).trans (h.block k hk hne)⟩
theorem Save.below {g0 b : Nat} {w W W' : World} (h : Save g0 W W') (hb : Below b w W) (hg : b ≤ g0) (hs : b ≤ W.heap.size) : Below b w W' :=
  ⟨h.os.trans hb.os, h.tape.trans hb.tape, h.output.trans hb.output, Nat.le_trans hb.size h.size, fun k hk => (h.block k (by omega) (by omega)).trans (hb.block k hk)⟩
structure RInvT (l : List Oper) (a0 aE : Act) (w0 : World) (g0 s n : Nat) (T : TypeId) (U : Array Value) (listed : Array Bool) (a : Act) (w : World) : Prop where
  df : a.defers = aE.defers
  sz : a.tmps.size = aE.tmps.size
  len : listed.size = l.length
  fr1 : ∀ (j : Nat) (o : Oper) (t : Nat), l[j]? = some o → o.dst = some t → listed.getD j false = true → a.tmps.getD t undef = aE.tmps.getD t undef
  fr0 : ∀ t : Nat, (∀ (j : Nat) (o : Oper), l[j]? = some o → o.dst = some t → listed.getD j false = false) → a.tmps.getD t undef = a0.tmps.getD t undef
  bl : Save g0 w0 w
  box : ∃ cs, w.heap[g0]? = some (.cells cs T (0, 0)) ∧ cs.size = n ∧ (listed.getD s false = true → cs = U)
section
variable {P : Program} {Q : Exit → Act → World → Prop} {l : List Oper} {a0 : Act} {w : World} {vs : List (Nat × Value)} {g0 s n : Nat} {T : TypeId} {U : Array Value} {os : Oper}
/-- What the law asks of one operation that is not the store. -/
def CalmT (P : Program) (aE : Act) (w : World) (g0 : Nat) (l : List Oper) (o : Oper) : Prop := ∀ t, o.dst = some t →
  (Region.wanted o (yielded l.toArray aE.tmps) = true ∧ ∀ W, Save g0 w W → calmAt P o aE.eval W (aE.tmps.getD t undef)) ∨ (Region.wanted o (yielded l.toArray aE.tmps) = false ∧ aE.tmps.getD t undef = undef)
theorem CalmT.mk {P : Program} {aE : Act} {w : World} {g0 : Nat} {l : List Oper} {o : Oper} (t : Nat) (v : Value) (hd : o.dst = some t) (hv : aE.tmps.getD t undef = v) (hw : Region.wanted o (yielded l.toArray aE.tmps) = true) (h : ∀ W, Save g0 w W → calmAt P o aE.eval W v) : CalmT P aE w g0 l o := by
  intro t' hd'
  rw [hd] at hd'
  obtain rfl := Option.some.inj hd'
  exact .inl ⟨hw, fun W hW => by rw [hv]; exact h W hW⟩
end
end Go.Proofs.Ytnpmdchphaenaaa
/- Contracts: the laws' marks on lists of points (and lines). (Printed by geng4.py, a program of this session.) -/
namespace Go.Proofs.Ytnpmdchphaenaaa
open Go.RowKit
set_option linter.unusedVariables false
set_option linter.unusedSimpArgs false
def markP (k i : Nat) : Pt := (((k + 3 * i : Nat) : Int), ((k + 3 * i + 1 : Nat) : Int), ((k + 3 * i + 2 : Nat) : Int))
def markL (k n : Nat) : List Pt := (List.range n).map (markP k)
theorem Save.refl (g : Nat) (w : World) : Save g w w := ⟨rfl, rfl, rfl, Nat.le_refl _, fun _ _ _ => rfl⟩
theorem Save.setCell {g0 : Nat} {w W : World} (h : Save g0 w W) (i : Nat) (v : Value) : Save g0 w (W.setCell ⟨g0, i, none⟩ v) :=
  ⟨h.os, h.tape, h.output, by simpa [World.setCell] using h.size, fun k hk hne => by
    have : (W.setCell ⟨g0, i, none⟩ v).heap[k]? = W.heap[k]? := by simp [World.setCell, Array.getElem?_modify, Ne.symm hne]
    rw [this]; exact h.block k hk hne⟩
/-- What marks leave. -/
structure MarkPost (g n k cap : Nat) (T : TypeId) (w : World) (e : Ending) (w' : World) : Prop where
  out : e = .returned (.int .i64 ((k + 3 * n : Nat) : Int)) ∧ Save g w w' ∧ RoomP w' g cap T ∧ PtsAt w' g 0 n (markL k n)
end Go.Proofs.Ytnpmdchphaenaaa
/- Contracts: the Singer map, as the reference finds it; SingerMap. (Printed by gens7.py, a program of this session.) -/
namespace Go.Proofs.Ytnpmdchphaenaaa
open Go.RowKit
set_option linter.unusedVariables false
set_option linter.unusedSimpArgs false
end Go.Proofs.Ytnpmdchphaenaaa
/- Contracts: the Singer order of a prime; SingerOrder, the program's and the reference's. -/
namespace Go.Proofs.Ytnpmdchphaenaaa
open Go.RowKit
set_option linter.unusedVariables false
set_option linter.unusedSimpArgs false
/-- A new list of points, and no error. -/
structure PtsPost2 (w : World) (l : List Pt) (e : Ending) (w' : World) : Prop where
  out : ∃ v, e = .returned (.tuple #[v, .int .i64 0]) ∧ w'.ownsRow w.heap.size 34 3 v l.length (ptCs l) ∧ Below w.heap.size w w'
end Go.Proofs.Ytnpmdchphaenaaa
/- The law FnExactSingerOrder, walked. -/
namespace Go.Proofs.Ytnpmdchphaenaaa
open Go.RowKit
set_option linter.unusedVariables false
set_option linter.unusedSimpArgs false
end Go.Proofs.Ytnpmdchphaenaaa
/- Laws with a list of points in and a list of points out: what their helpers do, in facts that a search finds. -/
namespace Go.Proofs.Ytnpmdchphaenaaa
open Go.RowKit
set_option linter.unusedVariables false
set_option linter.unusedSimpArgs false
/-- All blocks but one are as they were. -/
structure SaveP (g : Nat) (w W : World) : Prop where
  out : Save g w W
/-- A block of points that can be written. -/
structure RoomPK (W : World) (g cap : Nat) (T : TypeId) : Prop where
  out : RoomP W g cap T
theorem save_cell {w W : World} {g b o : Nat} {v : Value} (hs : Save g w W) (hne : b ≠ g) (h : w.cell? ⟨b, o, none⟩ = some v) : W.cell? ⟨b, o, none⟩ = some v := by
  have hlt : b < w.heap.size := World.block_lt_of_cell? w _ h
  rw [← h]
  unfold World.cell?
  rw [hs.block b hlt hne]
theorem PtsK.saveP {w W : World} {g b o n : Nat} {L : List Pt} (hs : SaveP g w W) (hne : b ≠ g) (h : PtsK w b o n L) : PtsK W b o n L := ⟨fun i hi => ⟨save_cell hs.out hne (h.out i hi).1, save_cell hs.out hne (h.out i hi).2.1, save_cell hs.out hne (h.out i hi).2.2⟩⟩
theorem RoomPK.lt {W : World} {g cap : Nat} {T : TypeId} (h : RoomPK W g cap T) : g < W.heap.size := by
  obtain ⟨cur, h1, -⟩ := h.out
  exact (Array.getElem?_eq_some_iff.1 h1).1
theorem RoomPK.link {w W : World} {g cap : Nat} {T : TypeId} (l : Link w W) (h : RoomPK w g cap T) : RoomPK W g cap T := by
  obtain ⟨cur, h1, h2⟩ := h.out
  exact ⟨⟨cur, by rw [l.out.block _ (Array.getElem?_eq_some_iff.1 h1).1]; exact h1, h2⟩⟩
theorem RoomPK.saveP {w W : World} {g b cap : Nat} {T : TypeId} (hs : SaveP g w W) (hne : b ≠ g) (h : RoomPK w b cap T) : RoomPK W b cap T := by
  obtain ⟨cur, h1, h2⟩ := h.out
  exact ⟨⟨cur, by rw [hs.out.block b (Array.getElem?_eq_some_iff.1 h1).1 hne]; exact h1, h2⟩⟩
theorem LowK.saveP {w w1 W : World} {g : Nat} (hs : SaveP g w1 W) (hg : w.heap.size ≤ g) (h : LowK w w1) : LowK w W := ⟨hs.out.below h.out hg h.out.size⟩
theorem fP {W : World} {b o n : Nat} {L : List Pt} (h : PtsK W b o n L := by repeat (first | with_reducible assumption | (apply PtsK.link; (· with_reducible assumption)) | (apply PtsK.saveP; (· with_reducible assumption); (· omega)))) : PtsK W b o n L := h
/-- A copy of an argument. -/
structure CopyP (w : World) (k : Nat) (l : List Pt) (e : Ending) (w' : World) : Prop where
  out : ∃ g, e = .returned (.slice (some ⟨g, 0, none⟩) k (k + roomN k)) ∧ w.heap.size ≤ g ∧ g < w'.heap.size ∧ RoomPK w' g (k + roomN k) 34 ∧ PtsK w' g 0 (k + roomN k) (withRoomP l) ∧ PtsK w' g 0 k l ∧ Link w w'
structure MarkP (g n : Nat) (M : Int) (w : World) (e : Ending) (w' : World) : Prop where
  out : e = .returned (.int .i64 M) ∧ SaveP g w w' ∧ w.heap.size ≤ w'.heap.size ∧ PtsK w' g 0 n (markL 101 n)
/-- A new list of points, not empty, and no error. -/
structure MadeP (w : World) (n : Nat) (R : List Pt) (e : Ending) (w' : World) : Prop where
  out : ∃ g c, e = .returned (.tuple #[.slice (some ⟨g, 0, none⟩) n c, .int .i64 0]) ∧ w.heap.size ≤ g ∧ g < w'.heap.size ∧ n ≤ c ∧ RoomPK w' g c 34 ∧ PtsK w' g 0 n R ∧ Link w w'
theorem ListC.at {W : World} {g n c : Nat} {l : List Pt} (hl : l.length = n) (h : PtsK W g 0 n l) : ListC W (some ⟨g, 0, none⟩) n c l := ⟨hl, .inr ⟨g, rfl, h.out⟩⟩
theorem ListC.nil {W : World} {l : List Pt} {n : Nat} (h : n = 0) (hl : l.length = n) : ListC W none n 0 l := ⟨hl, .inl ⟨rfl, h, rfl⟩⟩
theorem OwnK.made {w W : World} {v : Value} {n : Nat} {l : List Pt} (h : OwnK W w.heap.size 34 3 v n (ptCs l)) (hl : l.length = n) (hn : 0 < n) (hL : LowK w W) : MadeP w n l (.returned (.tuple #[v, .int .i64 0])) W := by
  have h0 := h
  rcases h.out.2 with ⟨_, h0⟩ | ⟨g, cap, cur, rfl, hb, hg, hle, _, hsz, htk⟩
  · omega
  · obtain ⟨g2, cap2, e2, -, -, hP⟩ := h.pts hl hn
    cases e2
    exact ⟨⟨_, _, rfl, hb, (Array.getElem?_eq_some_iff.1 hg).1, hle, ⟨cur, hg, hsz⟩, hP, LowK.lnk hL⟩⟩
end Go.Proofs.Ytnpmdchphaenaaa
/- Contracts: OrbitsOf, the program's side and the refused sides; the laws' lists of lists of points: compared, marked, held. -- maps -- gomaps -- classes -/
namespace Go.Proofs.Ytnpmdchphaenaaa
open Go.RowKit
set_option linter.unusedVariables false
set_option linter.unusedSimpArgs false
/-- A table, or nil, and a code. -/
structure TabC (w : World) (Ls : List (List Pt)) (cd : Int) (e : Ending) (w' : World) : Prop where
  out : ∃ b c T, e = .returned (.tuple #[.slice b T.length c, .int .i64 cd]) ∧ T.map (·.2.2) = Ls ∧ TabK w' w.heap.size T ∧ OwnK w' w.heap.size 39 1 (.slice b T.length c) T.length (tabV T) ∧ LowK w w'
theorem TabC.nil {w w' : World} {cd : Int} {e : Ending} (h : Ret w (.tuple #[.slice none 0 0, .int .i64 cd]) e w') : TabC w [] cd e w' := by
  obtain ⟨rfl, hb⟩ := h
  exact ⟨none, 0, [], rfl, rfl, TabK.nil _ _, ⟨⟨rfl, .inl ⟨rfl, rfl⟩⟩⟩, ⟨hb⟩⟩
set_option maxRecDepth 20000 in
set_option maxHeartbeats 8000000 in
theorem OrbitsOf_spec_code (p : Int) (b : Option Addr) (k c : Nat) (ms : List M9) (w : World) (hk : k ≤ 1000000) (hms : ListM w b k ms) {cd : Int} (hcode : codeML p k (oksM p ms && ptsB p []) = cd) (hc : ¬ cd = 0) :
    Calls Try.prog 7 #[.int .i64 p, .slice b k c] w (TabC w [] cd) := by
  have HV := Lib.hid hcode
  clear hcode
  suffices h : Calls Try.prog 7 #[.int .i64 p, .slice b k c] w (Ret w (.tuple #[.slice none 0 0, .int .i64 cd])) from h.mono fun e w' h => TabC.nil h
  go_enter Try.func7, Try.ntmps7
  go_wp2_with (first | (refine wl_loadJ ?_) | (refine wl_load ?_) | (refine wl_loadM ?_) | (refine wl_storeJ ?_) | (refine wl_mapNewP ?_) | (refine wl_mapUpdP (L := ?_) ?_ ?_ ?_ ?_ (ho := .inl rfl); rotate_left 2; exact findGomP; assumption; assumption; intro Wm hMm hTm; have hs := hTm.out.1; (try simp at hs); (try have hOm := OwnK.turnP hTm findGomP findOwn); (try have hVm := LowK.turnP hTm (by assumption) findLow)) | (refine wl_fill1 ?_) | (refine wl_fill2 ?_) | (refine wl_storeM ?_) | (refine wl_makeM ?_; intro gm W' hgm hl hT; have hs := hl.out.size; (try simp at hs)) | (refine wl_store (h1 := mC_one _) ?_) | (refine wl_sliceM ?_) | (refine wl_append (he := eltMp) (h1 := mC_one _) ?_; intro v' w' ho hg hb; have hs := hg.size; (try simp at hs); rw [mCs_snoc] at ho; (try obtain ⟨gz, cz, rfl, hzb, hzl, -⟩ := OwnK.maps ho (by simp) (by omega))) | (refine wl_mapLook true ?_ (hM := findGom) (hv := by (first | exact decide_eq_true (by assumption)))) | (refine wl_mapLook false ?_ (hM := findGom) (hv := by (first | exact decide_eq_false (by assumption)))) | (refine wl_store ?_) | (refine wl_build ?_) | (refine wl_slice ?_) | (refine wl_append (he := eltSp) ?_; intro v' w' ho hg hb; have hs := hg.size; (try simp at hs)) | (refine wl_append ?_; intro v' w' ho hg hb; have hs := hg.size; (try simp at hs); (try rw [ptCs_end] at ho); (try rw [ints_end] at ho); (try simp only [Nat.zero_add, Nat.reduceAdd, List.nil_append, List.cons_append] at ho)) | (go_at_call 17; (with_reducible refine (l10Maps_none p b k c ms _ hk (hms.link (LowK.lnk findLow)) HV.out).mono ?_); rintro e w' ⟨rfl, hb⟩; have hl := Link.mk hb; have hs := hb.size; (try simp at hs); clear hb))
  (apply ret_two Try.results7; (conv => lhs; whnf); (conv => lhs; whnf); exact rfl)
  exact ret_ret rfl findLow
set_option maxRecDepth 20000 in
set_option maxHeartbeats 8000000 in
theorem OrbitsOf_impl_code (p : Int) (b : Option Addr) (k c : Nat) (ms : List M9) (w : World) (hk : k ≤ 1000000) (hms : ListM w b k ms) {cd : Int} (hcode : codeML p k (oksM p ms && ptsB p []) = cd) (hc : ¬ cd = 0) :
    Calls Try.prog 6 #[.int .i64 p, .slice b k c] w (TabC w [] cd) := by
  have HV := Lib.hid hcode
  clear hcode
  suffices h : Calls Try.prog 6 #[.int .i64 p, .slice b k c] w (Ret w (.tuple #[.slice none 0 0, .int .i64 cd])) from h.mono fun e w' h => TabC.nil h
  go_enter Try.func6, Try.ntmps6
  go_wp2_with (first | (refine wl_loadJ ?_) | (refine wl_load ?_) | (refine wl_loadM ?_) | (refine wl_storeJ ?_) | (refine wl_mapNewP ?_) | (refine wl_mapUpdP (L := ?_) ?_ ?_ ?_ ?_ (ho := .inl rfl); rotate_left 2; exact findGomP; assumption; assumption; intro Wm hMm hTm; have hs := hTm.out.1; (try simp at hs); (try have hOm := OwnK.turnP hTm findGomP findOwn); (try have hVm := LowK.turnP hTm (by assumption) findLow)) | (refine wl_fill1 ?_) | (refine wl_fill2 ?_) | (refine wl_storeM ?_) | (refine wl_makeM ?_; intro gm W' hgm hl hT; have hs := hl.out.size; (try simp at hs)) | (refine wl_store (h1 := mC_one _) ?_) | (refine wl_sliceM ?_) | (refine wl_append (he := eltMp) (h1 := mC_one _) ?_; intro v' w' ho hg hb; have hs := hg.size; (try simp at hs); rw [mCs_snoc] at ho; (try obtain ⟨gz, cz, rfl, hzb, hzl, -⟩ := OwnK.maps ho (by simp) (by omega))) | (refine wl_mapLook true ?_ (hM := findGom) (hv := by (first | exact decide_eq_true (by assumption)))) | (refine wl_mapLook false ?_ (hM := findGom) (hv := by (first | exact decide_eq_false (by assumption)))) | (refine wl_store ?_) | (refine wl_build ?_) | (refine wl_slice ?_) | (refine wl_append (he := eltSp) ?_; intro v' w' ho hg hb; have hs := hg.size; (try simp at hs)) | (refine wl_append ?_; intro v' w' ho hg hb; have hs := hg.size; (try simp at hs); (try rw [ptCs_end] at ho); (try rw [ints_end] at ho); (try simp only [Nat.zero_add, Nat.reduceAdd, List.nil_append, List.cons_append] at ho)) | (go_at_call 15; (with_reducible refine (listCode_none p b k c ms _ hk (hms.link (LowK.lnk findLow)) HV.out).mono ?_); rintro e w' ⟨rfl, hb⟩; have hl := Link.mk hb; have hs := hb.size; (try simp at hs); clear hb))
  (apply ret_two Try.results6; (conv => lhs; whnf); (conv => lhs; whnf); exact rfl)
  exact ret_ret rfl findLow
set_option maxRecDepth 20000 in
set_option maxHeartbeats 8000000 in
theorem OrbitsOf_impl_core (n : Nat) (b : Option Addr) (k c : Nat) (ms : List M9) (w : World) (h : MsOk n ms) (hk : k ≤ 8) (hms : ListM w b k ms) (hcode : codeML (n : Int) k (oksM (n : Int) ms && ptsB (n : Int) []) = 0) {Ls : List (List Pt)} (hLs : tabL (classP n ms) (allP n) (allP n).length (allP n).length = Ls) :
    Calls Try.prog 6 #[.int .i64 (n : Int), .slice b k c] w (TabC w Ls 0) := by
  have HV := Lib.hid hcode
  have HO := Lib.hid (fun (w : World) (hms : ListM w b k ms) => orbits_I n _ (allP n) b k c ms w h hk hms rfl rfl (nodup_allP h.pr))
  rw [hLs] at HO
  clear hcode hLs h
  go_enter Try.func6, Try.ntmps6
  go_wp2_with (first | (refine wl_loadJ ?_) | (refine wl_load ?_) | (refine wl_loadM ?_) | (refine wl_storeJ ?_) | (refine wl_mapNewP ?_) | (refine wl_mapUpdP (L := ?_) ?_ ?_ ?_ ?_ (ho := .inl rfl); rotate_left 2; exact findGomP; assumption; assumption; intro Wm hMm hTm; have hs := hTm.out.1; (try simp at hs); (try have hOm := OwnK.turnP hTm findGomP findOwn); (try have hVm := LowK.turnP hTm (by assumption) findLow)) | (refine wl_fill1 ?_) | (refine wl_fill2 ?_) | (refine wl_storeM ?_) | (refine wl_makeM ?_; intro gm W' hgm hl hT; have hs := hl.out.size; (try simp at hs)) | (refine wl_store (h1 := mC_one _) ?_) | (refine wl_sliceM ?_) | (refine wl_append (he := eltMp) (h1 := mC_one _) ?_; intro v' w' ho hg hb; have hs := hg.size; (try simp at hs); rw [mCs_snoc] at ho; (try obtain ⟨gz, cz, rfl, hzb, hzl, -⟩ := OwnK.maps ho (by simp) (by omega))) | (refine wl_mapLook true ?_ (hM := findGom) (hv := by (first | exact decide_eq_true (by assumption)))) | (refine wl_mapLook false ?_ (hM := findGom) (hv := by (first | exact decide_eq_false (by assumption)))) | (refine wl_store ?_) | (refine wl_build ?_) | (refine wl_slice ?_) | (refine wl_append (he := eltSp) ?_; intro v' w' ho hg hb; have hs := hg.size; (try simp at hs)) | (refine wl_append ?_; intro v' w' ho hg hb; have hs := hg.size; (try simp at hs); (try rw [ptCs_end] at ho); (try rw [ints_end] at ho); (try simp only [Nat.zero_add, Nat.reduceAdd, List.nil_append, List.cons_append] at ho)) | (go_at_call 15; (with_reducible refine (listCode_none n b k c ms _ (by omega) (hms.link (LowK.lnk findLow)) HV.out).mono ?_); rintro e w' ⟨rfl, hb⟩; have hl := Link.mk hb; have hs := hb.size; (try simp at hs); clear hb) | (go_at_call 16; (with_reducible refine (HO.out _ (hms.link (LowK.lnk findLow))).mono ?_); rintro e w4 ⟨v', T, rfl, hTL, hT, hO, hb⟩; obtain ⟨bo, cp, rfl⟩ := hO.form; have hl2 := LowK.lnk hb; have hs := hb.size))
  have hV : LowK w w4 := findLow
  (apply ret_two Try.results6; (conv => lhs; whnf); (conv => lhs; whnf); exact rfl)
  exact ⟨bo, cp, T, rfl, hTL, TabK.lower (by omega) hT, OwnK.lower (by omega) hO, hV⟩
/-- A table's header; its rows' points. -/
def HdrK (W : World) (b : Option Addr) (T : List Row3) : Prop := 0 < T.length → ∃ g, b = some ⟨g, 0, none⟩ ∧ ∀ j, j < T.length → CellK W g j (slV (T.getD j (0, 0, [])))
def RowsP (W : World) (T : List Row3) : Prop := ∀ t ∈ T, PtsK W t.1 0 t.2.2.length t.2.2
theorem HdrK.link {W W' : World} {b : Option Addr} {T : List Row3} (l : Link W W') (h : HdrK W b T) : HdrK W' b T := fun hn => by
  obtain ⟨g, e, hc⟩ := h hn
  exact ⟨g, e, fun j hj => (hc j hj).link l⟩
theorem RowsP.link {W W' : World} {T : List Row3} (l : Link W W') (h : RowsP W T) : RowsP W' T := fun t ht => (h t ht).link l
theorem HdrK.of {W : World} {B c : Nat} {b : Option Addr} {T : List Row3} (h : OwnK W B 39 1 (.slice b T.length c) T.length (tabV T)) : HdrK W b T := fun hn => by
  obtain ⟨g, cap, e, hc⟩ := h.tab hn
  injection e with h1
  exact ⟨g, h1, hc⟩
theorem RowsP.of {W : World} {B : Nat} {T : List Row3} (h : TabK W B T) : RowsP W T := fun t ht => by
  obtain ⟨hl, hO⟩ := h.out.1 t ht
  obtain ⟨g, c, e, -, -, hP⟩ := OwnK.pts hO rfl hl
  injection e with h1
  injection h1 with h1
  injection h1 with h1
  rw [h1]; exact hP
end Go.Proofs.Ytnpmdchphaenaaa
/- Contracts: the reference's GroupOrder; the refused sides. -- maps -- gomaps -/
namespace Go.Proofs.Ytnpmdchphaenaaa
open Go.RowKit
set_option linter.unusedVariables false
set_option linter.unusedSimpArgs false
@[go_sem high] theorem eqMM (w : World) (a b : M9) : (binOp .eql 47 (.agg (mC a)) (.agg (mC b))).run Try.prog w = .ok (.bool (decide (a = b))) w := by
  have h := eqMp w a.1.1 a.1.2.1 a.1.2.2 a.2.1.1 a.2.1.2.1 a.2.1.2.2 a.2.2.1 a.2.2.2.1 a.2.2.2.2 b.1.1 b.1.2.1 b.1.2.2 b.2.1.1 b.2.1.2.1 b.2.1.2.2 b.2.2.1 b.2.2.2.1 b.2.2.2.2
  have e : eqM (a.1.1, a.1.2.1, a.1.2.2) (a.2.1.1, a.2.1.2.1, a.2.1.2.2) (a.2.2.1, a.2.2.2.1, a.2.2.2.2) (b.1.1, b.1.2.1, b.1.2.2) (b.2.1.1, b.2.1.2.1, b.2.1.2.2) (b.2.2.1, b.2.2.2.1, b.2.2.2.2) = decide (a = b) := by
    rw [Bool.eq_iff_iff, eqM_iff, decide_eq_true_iff]
    constructor
    · rintro ⟨h1, h2, h3⟩; exact Prod.ext h1 (Prod.ext h2 h3)
    · rintro rfl; exact ⟨rfl, rfl, rfl⟩
  rw [e] at h
  exact h
theorem l10Maps_nil (p : Int) (b : Option Addr) (n k : Nat) (L : List M9) (w : World) (hn : n ≤ 1000000) (h : ListM w b n L) {v : Int} (hv : codeML p n (oksM p L && ptsB p []) = v) :
    Calls Try.prog 17 #[.int .i64 p, .slice b n k, .slice none 0 0] w (Ret w (.int .i64 v)) := by
  rw [← hv]; exact l10Maps_M p b n k L none 0 0 [] w hn (by decide) h (fun W _ => .inl ⟨rfl, rfl, rfl, rfl⟩)
theorem listCode_nil (p : Int) (b : Option Addr) (n k : Nat) (L : List M9) (w : World) (hn : n ≤ 1000000) (h : ListM w b n L) {v : Int} (hv : codeML p n (oksM p L && ptsB p []) = v) :
    Calls Try.prog 15 #[.int .i64 p, .slice b n k, .slice none 0 0] w (Ret w (.int .i64 v)) := by
  rw [← hv]; exact listCode_M p b n k L none 0 0 [] w hn (by decide) h ⟨rfl, fun h => absurd h (Nat.lt_irrefl _)⟩
theorem mem_at {l : List M9} {j : Nat} (h : j < l.length) : l.getD j m0 ∈ l := by rw [List.getD_eq_getElem?_getD, List.getElem?_eq_getElem h]; exact List.getElem_mem _
theorem at_mem {l : List M9} {t : M9} (h : t ∈ l) : ∃ q, q < l.length ∧ l.getD q m0 = t := by
  obtain ⟨q, hq, e⟩ := List.mem_iff_getElem.1 h
  exact ⟨q, hq, by rw [List.getD_eq_getElem?_getD, List.getElem?_eq_getElem hq]; exact e⟩
set_option maxRecDepth 20000 in
set_option maxHeartbeats 8000000 in
theorem GroupOrder_impl_code (p : Int) (b : Option Addr) (n c : Nat) (ms : List M9) (w : World) (hn : n ≤ 1000000) (hms : ListM w b n ms) {cd : Int} (hcode : codeML p n (oksM p ms && ptsB p []) = cd) (hc : ¬ cd = 0) :
    Calls Try.prog 9 #[.int .i64 p, .slice b n c] w (Ret w (.tuple #[.int .i64 0, .int .i64 cd])) := by
  have HV := Lib.hid hcode
  clear hcode
  go_enter Try.func9, Try.ntmps9
  go_wp2_with (first | (refine wl_loadM ?_) | (refine wl_load ?_) | (refine wl_fill1 ?_) | (refine wl_fill2 ?_) | (refine wl_storeM ?_) | (refine wl_makeM ?_; intro gm W' hgm hl hT; have hs := hl.out.size; (try simp at hs)) | (refine wl_store (h1 := mC_one _) ?_) | (refine wl_sliceM ?_) | (refine wl_append (he := eltMp) (h1 := mC_one _) ?_; intro v' w' ho hg hb; have hs := hg.size; (try simp at hs); rw [mCs_snoc] at ho; (try obtain ⟨gz, cz, rfl, hzb, hzl, -⟩ := OwnK.maps ho (by simp) (by omega))) | (refine wl_mapLook true ?_ (hM := findGom) (hv := by (first | exact decide_eq_true (by assumption)))) | (refine wl_mapLook false ?_ (hM := findGom) (hv := by (first | exact decide_eq_false (by assumption)))) | (refine wl_store ?_) | (refine wl_build ?_) | (refine wl_slice ?_) | (refine wl_append ?_; intro v' w' ho hg hb; have hs := hg.size; (try simp at hs); (try rw [ptCs_end] at ho); (try rw [ints_end] at ho); (try simp only [Nat.zero_add, Nat.reduceAdd, List.nil_append, List.cons_append] at ho)) | (go_at_call 15; (with_reducible refine (listCode_nil p b n c ms _ hn (hms.link (LowK.lnk findLow)) HV.out).mono ?_); rintro e w' ⟨rfl, hb⟩; have hl := Link.mk hb; have hs := hb.size; (try simp at hs); clear hb) | ((with_reducible apply region_gd (id := 11)); refine region_QNA (id := 11) 8 [⟨7, 12, #[.int .i64 0, .int .i64 0, .int .i64 0, .int .i64 0, .int .i64 0, .int .i64 0, .int .i64 0, .int .i64 0, .int .i64 0], 47⟩] (.k (.k (.k (.k (.k (.k (.k (.d (.d .n))))))))) ⟨(fun o ho ρ W => by obtain rfl : _ = o := Option.some.inj ho; simp [execOp, go_sem]), trivial⟩ ?_; apply Exists.intro; refine ⟨fun G => ?_, fun g W hl hg hd => ?_⟩; (· ((repeat (first | go_big_quiet_skip | (go_big_quiet_want; first | (refine q_loadM ?_; simp only [Act.put, List.setIfInBounds_toArray, List.set_cons_zero, List.set_cons_succ]; go_big_quiet_on) | (refine q_load ?_; simp only [Act.put, List.setIfInBounds_toArray, List.set_cons_zero, List.set_cons_succ]; go_big_quiet_on) | (go_big_quiet_op; first | go_big_quiet_on | (apply Exists.intro; refine ⟨fun g => ?_, ?_⟩; (· (have hl := growL g; first | (go_at_call 15; with_reducible exact grow_ret (listCode_nil p b n c ms _ hn (hms.link (LowK.lnk findLow)) HV.out)))); go_big_quiet_on))))); exact rfl)); obtain ⟨⟨q12, k12⟩, -⟩ := hg; have hs := hl.out.size; (try simp at hs); dsimp only at q12 k12; (try simp at q12); have l12 := k12.lt; clear hd; simp only [List.map_cons, List.map_nil, puts, Act.put, List.setIfInBounds_toArray, List.set_cons_zero, List.set_cons_succ, List.drop_succ_cons, List.drop_zero]; generalize g 12 = g12 at *; skip))
  (apply ret_two Try.results9; (conv => lhs; whnf); (conv => lhs; whnf); exact rfl)
  exact ret_ret rfl findLow
set_option maxRecDepth 20000 in
set_option maxHeartbeats 8000000 in
theorem GroupOrder_spec_code (p : Int) (b : Option Addr) (n c : Nat) (ms : List M9) (w : World) (hn : n ≤ 1000000) (hms : ListM w b n ms) {cd : Int} (hcode : codeML p n (oksM p ms && ptsB p []) = cd) (hc : ¬ cd = 0) :
    Calls Try.prog 10 #[.int .i64 p, .slice b n c] w (Ret w (.tuple #[.int .i64 0, .int .i64 cd])) := by
  have HV := Lib.hid hcode
  clear hcode
  go_enter Try.func10, Try.ntmps10
  go_wp2_with (first | (refine wl_loadM ?_) | (refine wl_load ?_) | (refine wl_fill1 ?_) | (refine wl_fill2 ?_) | (refine wl_storeM ?_) | (refine wl_makeM ?_; intro gm W' hgm hl hT; have hs := hl.out.size; (try simp at hs)) | (refine wl_store (h1 := mC_one _) ?_) | (refine wl_sliceM ?_) | (refine wl_append (he := eltMp) (h1 := mC_one _) ?_; intro v' w' ho hg hb; have hs := hg.size; (try simp at hs); rw [mCs_snoc] at ho; (try obtain ⟨gz, cz, rfl, hzb, hzl, -⟩ := OwnK.maps ho (by simp) (by omega))) | (refine wl_mapLook true ?_ (hM := findGom) (hv := by (first | exact decide_eq_true (by assumption)))) | (refine wl_mapLook false ?_ (hM := findGom) (hv := by (first | exact decide_eq_false (by assumption)))) | (refine wl_store ?_) | (refine wl_build ?_) | (refine wl_slice ?_) | (refine wl_append ?_; intro v' w' ho hg hb; have hs := hg.size; (try simp at hs); (try rw [ptCs_end] at ho); (try rw [ints_end] at ho); (try simp only [Nat.zero_add, Nat.reduceAdd, List.nil_append, List.cons_append] at ho)) | (go_at_call 17; (with_reducible refine (l10Maps_nil p b n c ms _ hn (hms.link (LowK.lnk findLow)) HV.out).mono ?_); rintro e w' ⟨rfl, hb⟩; have hl := Link.mk hb; have hs := hb.size; (try simp at hs); clear hb) | ((with_reducible apply region_gd (id := 11)); refine region_QNA (id := 11) 11 [⟨10, 10, #[.int .i64 0, .int .i64 0, .int .i64 0, .int .i64 0, .int .i64 0, .int .i64 0, .int .i64 0, .int .i64 0, .int .i64 0], 47⟩] (.k (.k (.k (.k (.k (.k (.k (.k (.k (.k (.d (.d (.d .n))))))))))))) ⟨(fun o ho ρ W => by obtain rfl : _ = o := Option.some.inj ho; simp [execOp, go_sem]), trivial⟩ ?_; apply Exists.intro; refine ⟨fun G => ?_, fun g W hl hg hd => ?_⟩; (· ((repeat (first | go_big_quiet_skip | (go_big_quiet_want; first | (refine q_loadM ?_; simp only [Act.put, List.setIfInBounds_toArray, List.set_cons_zero, List.set_cons_succ]; go_big_quiet_on) | (refine q_load ?_; simp only [Act.put, List.setIfInBounds_toArray, List.set_cons_zero, List.set_cons_succ]; go_big_quiet_on) | (go_big_quiet_op; first | go_big_quiet_on | (apply Exists.intro; refine ⟨fun g => ?_, ?_⟩; (· (have hl := growL g; first | (go_at_call 17; with_reducible exact grow_ret (l10Maps_nil p b n c ms _ hn (hms.link (LowK.lnk findLow)) HV.out)))); go_big_quiet_on))))); exact rfl)); obtain ⟨⟨q10, k10⟩, -⟩ := hg; have hs := hl.out.size; (try simp at hs); dsimp only at q10 k10; (try simp at q10); have l10 := k10.lt; clear hd; simp only [List.map_cons, List.map_nil, puts, Act.put, List.setIfInBounds_toArray, List.set_cons_zero, List.set_cons_succ, List.drop_succ_cons, List.drop_zero]; generalize g 10 = g10 at *; skip) | ((with_reducible apply region_gd (id := 15)); refine region_QA (id := 15) 7 ?_; apply Exists.intro; refine ⟨fun G => ?_, fun W hl => ?_⟩; (· (simp only [List.take_succ_cons, List.take_zero]; (repeat (first | go_big_quiet_skip | (go_big_quiet_want; first | (refine q_loadM ?_; simp only [Act.put, List.setIfInBounds_toArray, List.set_cons_zero, List.set_cons_succ]; go_big_quiet_on) | (refine q_load ?_; simp only [Act.put, List.setIfInBounds_toArray, List.set_cons_zero, List.set_cons_succ]; go_big_quiet_on) | (go_big_quiet_op; first | go_big_quiet_on | (apply Exists.intro; refine ⟨fun g => ?_, ?_⟩; (· (have hl := growL g; first | (go_at_call 17; with_reducible exact grow_ret (l10Maps_nil p b n c ms _ hn (hms.link (LowK.lnk findLow)) HV.out)))); go_big_quiet_on))))); exact rfl)); have hs := hl.out.size; (try simp at hs); simp only [List.drop_succ_cons, List.drop_zero]))
  (apply ret_two Try.results10; (conv => lhs; whnf); (conv => lhs; whnf); exact rfl)
  exact ret_ret rfl findLow
set_option pp.deepTerms false
set_option pp.deepTerms.threshold 10
set_option maxRecDepth 20000 in
set_option maxHeartbeats 8000000 in
theorem GroupOrder_spec_core (p : Int) (b : Option Addr) (n c : Nat) (ms : List M9) (w : World) (hp : prB p = true) (hn : n ≤ 8) (hms : ListM w b n ms) (hin : ∀ m ∈ ms, InM m) (hcode : codeML p n (oksM p ms && ptsB p []) = 0) (r e : Int) (hr : OutA p ms r e) :
    Calls Try.prog 10 #[.int .i64 p, .slice b n c] w (Ret w (.tuple #[.int .i64 r, .int .i64 e])) := by
  have HV := Lib.hid hcode
  have HR := Lib.hid hr
  clear hr hcode
  go_enter Try.func10, Try.ntmps10
  go_wp2_with (first | (refine wl_loadM ?_) | (refine wl_load ?_) | (refine wl_fill1 ?_) | (refine wl_fill2 ?_) | (refine wl_storeM ?_) | (refine wl_makeM ?_; intro gm W' hgm hl hT; have hs := hl.out.size; (try simp at hs)) | (refine wl_store (h1 := mC_one _) ?_) | (refine wl_sliceM ?_) | (refine wl_append (he := eltMp) (h1 := mC_one _) ?_; intro v' w' ho hg hb; have hs := hg.size; (try simp at hs); rw [mCs_snoc] at ho; (try obtain ⟨gz, cz, rfl, hzb, hzl, -⟩ := OwnK.maps ho (by simp) (by omega))) | (refine wl_mapLook true ?_ (hM := findGom) (hv := by (first | exact decide_eq_true (by assumption)))) | (refine wl_mapLook false ?_ (hM := findGom) (hv := by (first | exact decide_eq_false (by assumption)))) | (refine wl_store ?_) | (refine wl_build ?_) | (refine wl_slice ?_) | (refine wl_append ?_; intro v' w' ho hg hb; have hs := hg.size; (try simp at hs); (try rw [ptCs_end] at ho); (try rw [ints_end] at ho); (try simp only [Nat.zero_add, Nat.reduceAdd, List.nil_append, List.cons_append] at ho)) | (go_at_call 17; (with_reducible refine (l10Maps_nil p b n c ms _ (by omega) (hms.link (LowK.lnk findLow)) HV.out).mono ?_); rintro e w' ⟨rfl, hb⟩; have hl := Link.mk hb; have hs := hb.size; (try simp at hs); clear hb) | (go_at_call 24; (with_reducible refine (unit_S _).mono ?_); rintro e w' ⟨rfl, hb⟩; have hl := Link.mk hb; have hs := hb.size; (try simp at hs); clear hb) | ((with_reducible apply region_gd (id := 11)); refine region_QNA (id := 11) 11 [⟨10, 10, #[.int .i64 0, .int .i64 0, .int .i64 0, .int .i64 0, .int .i64 0, .int .i64 0, .int .i64 0, .int .i64 0, .int .i64 0], 47⟩] (.k (.k (.k (.k (.k (.k (.k (.k (.k (.k (.d (.d (.d .n))))))))))))) ⟨(fun o ho ρ W => by obtain rfl : _ = o := Option.some.inj ho; simp [execOp, go_sem]), trivial⟩ ?_; apply Exists.intro; refine ⟨fun G => ?_, fun g W hl hg hd => ?_⟩; (· ((repeat (first | go_big_quiet_skip | (go_big_quiet_want; first | (refine q_loadM ?_; simp only [Act.put, List.setIfInBounds_toArray, List.set_cons_zero, List.set_cons_succ]; go_big_quiet_on) | (refine q_load ?_; simp only [Act.put, List.setIfInBounds_toArray, List.set_cons_zero, List.set_cons_succ]; go_big_quiet_on) | (go_big_quiet_op; first | go_big_quiet_on | (apply Exists.intro; refine ⟨fun g => ?_, ?_⟩; (· (have hl := growL g; first | (go_at_call 17; with_reducible exact grow_ret (l10Maps_nil p b n c ms _ (by omega) (hms.link (LowK.lnk findLow)) HV.out)) | (go_at_call 24; with_reducible exact grow_ret (unit_S _)))); go_big_quiet_on))))); exact rfl)); obtain ⟨⟨q10, k10⟩, -⟩ := hg; have hs := hl.out.size; (try simp at hs); dsimp only at q10 k10; (try simp at q10); have l10 := k10.lt; clear hd; simp only [List.map_cons, List.map_nil, puts, Act.put, List.setIfInBounds_toArray, List.set_cons_zero, List.set_cons_succ, List.drop_succ_cons, List.drop_zero]; generalize g 10 = g10 at *; skip) | ((with_reducible apply region_gd (id := 15)); refine region_QA (id := 15) 7 ?_; apply Exists.intro; refine ⟨fun G => ?_, fun W hl => ?_⟩; (· (simp only [List.take_succ_cons, List.take_zero]; (repeat (first | go_big_quiet_skip | (go_big_quiet_want; first | (refine q_loadM ?_; simp only [Act.put, List.setIfInBounds_toArray, List.set_cons_zero, List.set_cons_succ]; go_big_quiet_on) | (refine q_load ?_; simp only [Act.put, List.setIfInBounds_toArray, List.set_cons_zero, List.set_cons_succ]; go_big_quiet_on) | (go_big_quiet_op; first | go_big_quiet_on | (apply Exists.intro; refine ⟨fun g => ?_, ?_⟩; (· (have hl := growL g; first | (go_at_call 17; with_reducible exact grow_ret (l10Maps_nil p b n c ms _ (by omega) (hms.link (LowK.lnk findLow)) HV.out)) | (go_at_call 24; with_reducible exact grow_ret (unit_S _)))); go_big_quiet_on))))); exact rfl)); have hs := hl.out.size; (try simp at hs); simp only [List.drop_succ_cons, List.drop_zero]))
  obtain ⟨B, hB⟩ : ∃ B, w'.heap.size = B := ⟨_, rfl⟩
  have hB1 := Nat.le_of_eq hB
  have hB2 := Nat.le_of_eq hB.symm
  have hBw : w.heap.size ≤ B := by have := LowK.size (w := w) (W := w') findLow; omega
  have hr0 : RowK (w'.alloc (.cells (mC oneM) 47)) w'.heap.size (mC oneM) 47 := findRow
  have hO0 : OwnK (w'.alloc (.cells (mC oneM) 47)) B 47 9 (.slice (some ⟨w'.heap.size, 0, none⟩) 1 1) (seqA p ms 0).length (mCs (seqA p ms 0)) := OwnK.oneM hr0 hB2
  have hml := hms.out.1
  clear hB hr0
  go_loopw [7, 8] (fun v iv wr => ∃ i : Nat, GoodA p ms i ∧ i ≤ (seqA p ms i).length ∧ iv = .int .i64 (i : Int) ∧ OwnK wr B 47 9 v (seqA p ms i).length (mCs (seqA p ms i)) ∧ LowK w wr ∧ B ≤ wr.heap.size) (fun _ iv wr => 201 - (intOf iv).toNat)
  case atStart => exact ⟨0, fun i hi => absurd hi (Nat.not_lt_zero _), Nat.zero_le _, rfl, hO0, findLow, (by first | omega | (simp; omega))⟩
  case round =>
    clear hO0 hl hs
    obtain ⟨i, hG, hi, rfl, hO, hV, hsz⟩ := hrel
    have h200 := good_len hG (Nat.le_refl i)
    have hall := seqA_all hp ms i
    have hpos := seqA_pos p ms i
    obtain ⟨A, hA⟩ : ∃ A, seqA p ms i = A := ⟨_, rfl⟩
    have HAA := Lib.hid hA
    rw [hA] at hO h200 hi hall hpos
    clear hA
    obtain ⟨vo, cpo, rfl, hgo, hgo2, hmo⟩ := OwnK.maps hO rfl hpos
    clear hmo
    by_cases hlt : i < A.length
    · obtain ⟨x, hx⟩ : ∃ x, A.getD i m0 = x := ⟨_, rfl⟩
      have hxi : InM x := by rw [← hx]; exact hall _ (by rw [List.getD_eq_getElem?_getD, List.getElem?_eq_getElem hlt]; exact List.getElem_mem _)
      have HX := Lib.hid hx
      clear hx
      go_wp2_with (first | (refine wl_loadM ?_) | (refine wl_load ?_) | (refine wl_fill1 ?_) | (refine wl_fill2 ?_) | (refine wl_storeM ?_) | (refine wl_makeM ?_; intro gm W' hgm hl hT; have hs := hl.out.size; (try simp at hs)) | (refine wl_store (h1 := mC_one _) ?_) | (refine wl_sliceM ?_) | (refine wl_append (he := eltMp) (h1 := mC_one _) ?_; intro v' w' ho hg hb; have hs := hg.size; (try simp at hs); rw [mCs_snoc] at ho; (try obtain ⟨gz, cz, rfl, hzb, hzl, -⟩ := OwnK.maps ho (by simp) (by omega))) | (refine wl_mapLook true ?_ (hM := findGom) (hv := by (first | exact decide_eq_true (by assumption)))) | (refine wl_mapLook false ?_ (hM := findGom) (hv := by (first | exact decide_eq_false (by assumption)))) | (refine wl_store ?_) | (refine wl_build ?_) | (refine wl_slice ?_) | (refine wl_append ?_; intro v' w' ho hg hb; have hs := hg.size; (try simp at hs); (try rw [ptCs_end] at ho); (try rw [ints_end] at ho); (try simp only [Nat.zero_add, Nat.reduceAdd, List.nil_append, List.cons_append] at ho)) | ((with_reducible apply region_gd (id := 11)); refine region_QNA (id := 11) 11 [⟨10, 10, #[.int .i64 0, .int .i64 0, .int .i64 0, .int .i64 0, .int .i64 0, .int .i64 0, .int .i64 0, .int .i64 0, .int .i64 0], 47⟩] (.k (.k (.k (.k (.k (.k (.k (.k (.k (.k (.d (.d (.d .n))))))))))))) ⟨(fun o ho ρ W => by obtain rfl : _ = o := Option.some.inj ho; simp [execOp, go_sem]), trivial⟩ ?_; apply Exists.intro; refine ⟨fun G => ?_, fun g W hl hg hd => ?_⟩; (· ((repeat (first | go_big_quiet_skip | (go_big_quiet_want; first | (refine q_loadM ?_; simp only [Act.put, List.setIfInBounds_toArray, List.set_cons_zero, List.set_cons_succ]; go_big_quiet_on) | (refine q_load ?_; simp only [Act.put, List.setIfInBounds_toArray, List.set_cons_zero, List.set_cons_succ]; go_big_quiet_on) | (go_big_quiet_op; first | go_big_quiet_on)))); exact rfl)); obtain ⟨⟨q10, k10⟩, -⟩ := hg; have hs := hl.out.size; (try simp at hs); dsimp only at q10 k10; (try simp at q10); have l10 := k10.lt; clear hd; simp only [List.map_cons, List.map_nil, puts, Act.put, List.setIfInBounds_toArray, List.set_cons_zero, List.set_cons_succ, List.drop_succ_cons, List.drop_zero]; generalize g 10 = g10 at *; skip) | ((with_reducible apply region_gd (id := 15)); refine region_QA (id := 15) 7 ?_; apply Exists.intro; refine ⟨fun G => ?_, fun W hl => ?_⟩; (· (simp only [List.take_succ_cons, List.take_zero]; (repeat (first | go_big_quiet_skip | (go_big_quiet_want; first | (refine q_loadM ?_; simp only [Act.put, List.setIfInBounds_toArray, List.set_cons_zero, List.set_cons_succ]; go_big_quiet_on) | (refine q_load ?_; simp only [Act.put, List.setIfInBounds_toArray, List.set_cons_zero, List.set_cons_succ]; go_big_quiet_on) | (go_big_quiet_op; first | go_big_quiet_on)))); exact rfl)); have hs := hl.out.size; (try simp at hs); simp only [List.drop_succ_cons, List.drop_zero]))
      have hAl : 0 < A.length := by omega
      go_loopw [7, 9] (fun v kv wi => ∃ k : Nat, k ≤ n ∧ kv = .int .i64 (k : Int) ∧ (innA p ms A x k).length ≤ 200 ∧ OwnK wi B 47 9 v (innA p ms A x k).length (mCs (innA p ms A x k)) ∧ LowK w wi ∧ B ≤ wi.heap.size) (fun _ kv wi => n - (intOf kv).toNat)
      case atStart => exact ⟨0, Nat.zero_le _, rfl, h200, hO, findLow, (by first | omega | (simp; omega))⟩
      case round =>
        clear hO hV hsz hall
        obtain ⟨k, hk, rfl, hk200, hO, hV, hsz⟩ := hrel
        have hpre := (innA_pre p ms A x k).length_le
        by_cases hlk : k < n
        · obtain ⟨y, hy⟩ : ∃ y, ms.getD k m0 = y := ⟨_, rfl⟩
          have hyi : InM y := by rw [← hy]; exact hin _ (by rw [List.getD_eq_getElem?_getD, List.getElem?_eq_getElem (by omega)]; exact List.getElem_mem _)
          obtain ⟨t, ht⟩ : ∃ t, timesM p x y = t := ⟨_, rfl⟩
          have HT := Lib.hid ht
          have HS := Lib.hid (innA_succ (A := A) (x := x) (k := k) hy ht)
          have hgx := innA_at (p := p) (ms := ms) (x := x) hlt k
          have hmono : (innA p ms A x (k + 1)).length ≤ (innA p ms A x n).length := (innA_mono p ms A x n (by omega)).length_le
          rw [← seqA_succ HAA.out HX.out hml] at hmono
          obtain ⟨A2, hA2⟩ : ∃ A2, innA p ms A x k = A2 := ⟨_, rfl⟩
          rw [hA2] at hO hk200 hpre HS hgx
          have hgx := hgx.trans HX.out
          have hA2l : i < A2.length := by omega
          obtain ⟨vg, cpk, rfl, hg, hg2, hm⟩ := OwnK.maps hO rfl (by omega)
          obtain ⟨gb, off, rfl, hma⟩ := hms.out.2 (by omega)
          have r1 : RangeK wr gb (off + k * 9) (mC y) := by rw [← hy]; exact (hma.at_ hlk).viaLow hV
          have r2 : RangeK wr vg (i * 9) (mC x) := by have := hm.at_ hA2l; rw [Nat.zero_add, hgx] at this; exact this
          clear ht hA2 hy hma hgx
          have HMO := Lib.hid hmono
          clear hmono
          go_wp2_with (first | (refine wl_loadM ?_) | (refine wl_load ?_) | (refine wl_fill1 ?_) | (refine wl_fill2 ?_) | (refine wl_storeM ?_) | (refine wl_makeM ?_; intro gm W' hgm hl hT; have hs := hl.out.size; (try simp at hs)) | (refine wl_store (h1 := mC_one _) ?_) | (refine wl_sliceM ?_) | (refine wl_append (he := eltMp) (h1 := mC_one _) ?_; intro v' w' ho hg hb; have hs := hg.size; (try simp at hs); rw [mCs_snoc] at ho; (try obtain ⟨gz, cz, rfl, hzb, hzl, -⟩ := OwnK.maps ho (by simp) (by omega))) | (refine wl_mapLook true ?_ (hM := findGom) (hv := by (first | exact decide_eq_true (by assumption)))) | (refine wl_mapLook false ?_ (hM := findGom) (hv := by (first | exact decide_eq_false (by assumption)))) | (refine wl_store ?_) | (refine wl_build ?_) | (refine wl_slice ?_) | (refine wl_append ?_; intro v' w' ho hg hb; have hs := hg.size; (try simp at hs); (try rw [ptCs_end] at ho); (try rw [ints_end] at ho); (try simp only [Nat.zero_add, Nat.reduceAdd, List.nil_append, List.cons_append] at ho)) | (go_at_call 25; (with_reducible refine (times_S _ HT.out hp hxi hyi).mono ?_); rintro e w' ⟨rfl, hb⟩; have hl := Link.mk hb; have hs := hb.size; (try simp at hs); clear hb) | ((with_reducible apply region_gd (id := 11)); refine region_QNA (id := 11) 11 [⟨10, 10, #[.int .i64 0, .int .i64 0, .int .i64 0, .int .i64 0, .int .i64 0, .int .i64 0, .int .i64 0, .int .i64 0, .int .i64 0], 47⟩] (.k (.k (.k (.k (.k (.k (.k (.k (.k (.k (.d (.d (.d .n))))))))))))) ⟨(fun o ho ρ W => by obtain rfl : _ = o := Option.some.inj ho; simp [execOp, go_sem]), trivial⟩ ?_; apply Exists.intro; refine ⟨fun G => ?_, fun g W hl hg hd => ?_⟩; (· ((repeat (first | go_big_quiet_skip | (go_big_quiet_want; first | (refine q_loadM ?_; simp only [Act.put, List.setIfInBounds_toArray, List.set_cons_zero, List.set_cons_succ]; go_big_quiet_on) | (refine q_load ?_; simp only [Act.put, List.setIfInBounds_toArray, List.set_cons_zero, List.set_cons_succ]; go_big_quiet_on) | (go_big_quiet_op; first | go_big_quiet_on | (apply Exists.intro; refine ⟨fun g => ?_, ?_⟩; (· (have hl := growL g; first | (go_at_call 25; with_reducible exact grow_ret (times_S _ HT.out hp hxi hyi)))); go_big_quiet_on))))); exact rfl)); obtain ⟨⟨q10, k10⟩, -⟩ := hg; have hs := hl.out.size; (try simp at hs); dsimp only at q10 k10; (try simp at q10); have l10 := k10.lt; clear hd; simp only [List.map_cons, List.map_nil, puts, Act.put, List.setIfInBounds_toArray, List.set_cons_zero, List.set_cons_succ, List.drop_succ_cons, List.drop_zero]; generalize g 10 = g10 at *; skip) | ((with_reducible apply region_gd (id := 15)); refine region_QA (id := 15) 7 ?_; apply Exists.intro; refine ⟨fun G => ?_, fun W hl => ?_⟩; (· (simp only [List.take_succ_cons, List.take_zero]; (repeat (first | go_big_quiet_skip | (go_big_quiet_want; first | (refine q_loadM ?_; simp only [Act.put, List.setIfInBounds_toArray, List.set_cons_zero, List.set_cons_succ]; go_big_quiet_on) | (refine q_load ?_; simp only [Act.put, List.setIfInBounds_toArray, List.set_cons_zero, List.set_cons_succ]; go_big_quiet_on) | (go_big_quiet_op; first | go_big_quiet_on | (apply Exists.intro; refine ⟨fun g => ?_, ?_⟩; (· (have hl := growL g; first | (go_at_call 25; with_reducible exact grow_ret (times_S _ HT.out hp hxi hyi)))); go_big_quiet_on))))); exact rfl)); have hs := hl.out.size; (try simp at hs); simp only [List.drop_succ_cons, List.drop_zero]))
          have hbx : RowK (W.setRow g10 (mC t)) g10 (mC t) 47 := findRow
          have hO1 : OwnK (W.setRow g10 (mC t)) B 47 9 (.slice (some ⟨vg, 0, none⟩) A2.length cpk) A2.length (mCs A2) := findOwn
          have hV1 : LowK w (W.setRow g10 (mC t)) := findLow
          have hsz1 : B ≤ (W.setRow g10 (mC t)).heap.size := by first | omega | (simp; omega)
          have hlt1 : vg < (W.setRow g10 (mC t)).heap.size := by first | omega | (simp; omega)
          have hoff : Off (.slice (some ⟨vg, 0, none⟩) A2.length cpk) g10 := Off.above hO q10
          clear hO hV r1 r2 hm hl hs k10
          generalize W.setRow g10 (mC t) = W4 at *
          obtain ⟨vg2, cp2, e2, -, -, hm⟩ := OwnK.maps hO1 rfl (by omega)
          obtain rfl : vg = vg2 := by injection e2 with h1; injection h1 with h1; injection h1
          clear e2
          go_loopw [11, 12] (fun kv jv wi => ∃ (j : Nat) (kn : Bool), j ≤ A2.length ∧ jv = .int .i64 (j : Int) ∧ kv = .bool kn ∧ (kn = true → t ∈ A2) ∧ (kn = false → ∀ q, q < j → A2.getD q m0 ≠ t) ∧ LowK W4 wi) (fun _ jv wi => A2.length - (intOf jv).toNat)
          case atStart => exact ⟨0, false, Nat.zero_le _, rfl, rfl, (fun h => by cases h), (fun _ q hq => absurd hq (Nat.not_lt_zero _)), LowK.refl _⟩
          case round =>
            obtain ⟨j, kn, hj, rfl, rfl, hk1, hk2, hV4⟩ := hrel
            rcases kn with _ | _
            · replace hk2 := hk2 rfl
              clear hk1
              by_cases hlj : j < A2.length
              · obtain ⟨z, hz⟩ : ∃ z, A2.getD j m0 = z := ⟨_, rfl⟩
                have r3 : RangeK wr vg (j * 9) (mC z) := by have := (hm.at_ hlj).viaLow hV4; rw [Nat.zero_add, hz] at this; exact this
                have r4 := RowK.link (LowK.lnk hV4) hbx
                have HZ := Lib.hid hz
                clear hz
                obtain ⟨v, hv⟩ : ∃ v, decide (z = t) = v := ⟨_, rfl⟩
                have HV2 := Lib.hid hv
                clear hv
                go_wp2_with (first | (refine wl_loadM ?_) | (refine wl_load ?_) | (refine wl_fill1 ?_) | (refine wl_fill2 ?_) | (refine wl_storeM ?_) | (refine wl_makeM ?_; intro gm W' hgm hl hT; have hs := hl.out.size; (try simp at hs)) | (refine wl_store (h1 := mC_one _) ?_) | (refine wl_sliceM ?_) | (refine wl_append (he := eltMp) (h1 := mC_one _) ?_; intro v' w' ho hg hb; have hs := hg.size; (try simp at hs); rw [mCs_snoc] at ho; (try obtain ⟨gz, cz, rfl, hzb, hzl, -⟩ := OwnK.maps ho (by simp) (by omega))) | (refine wl_mapLook true ?_ (hM := findGom) (hv := by (first | exact decide_eq_true (by assumption)))) | (refine wl_mapLook false ?_ (hM := findGom) (hv := by (first | exact decide_eq_false (by assumption)))) | (refine wl_store ?_) | (refine wl_build ?_) | (refine wl_slice ?_) | (refine wl_append ?_; intro v' w' ho hg hb; have hs := hg.size; (try simp at hs); (try rw [ptCs_end] at ho); (try rw [ints_end] at ho); (try simp only [Nat.zero_add, Nat.reduceAdd, List.nil_append, List.cons_append] at ho)) | ((with_reducible apply region_gd (id := 11)); refine region_QNA (id := 11) 11 [⟨10, 10, #[.int .i64 0, .int .i64 0, .int .i64 0, .int .i64 0, .int .i64 0, .int .i64 0, .int .i64 0, .int .i64 0, .int .i64 0], 47⟩] (.k (.k (.k (.k (.k (.k (.k (.k (.k (.k (.d (.d (.d .n))))))))))))) ⟨(fun o ho ρ W => by obtain rfl : _ = o := Option.some.inj ho; simp [execOp, go_sem]), trivial⟩ ?_; apply Exists.intro; refine ⟨fun G => ?_, fun g W hl hg hd => ?_⟩; (· ((repeat (first | go_big_quiet_skip | (go_big_quiet_want; first | (refine q_loadM ?_; simp only [Act.put, List.setIfInBounds_toArray, List.set_cons_zero, List.set_cons_succ]; go_big_quiet_on) | (refine q_load ?_; simp only [Act.put, List.setIfInBounds_toArray, List.set_cons_zero, List.set_cons_succ]; go_big_quiet_on) | (go_big_quiet_op; first | go_big_quiet_on)))); exact rfl)); obtain ⟨⟨q10, k10⟩, -⟩ := hg; have hs := hl.out.size; (try simp at hs); dsimp only at q10 k10; (try simp at q10); have l10 := k10.lt; clear hd; simp only [List.map_cons, List.map_nil, puts, Act.put, List.setIfInBounds_toArray, List.set_cons_zero, List.set_cons_succ, List.drop_succ_cons, List.drop_zero]; generalize g 10 = g10 at *; skip) | ((with_reducible apply region_gd (id := 15)); refine region_QA (id := 15) 7 ?_; apply Exists.intro; refine ⟨fun G => ?_, fun W hl => ?_⟩; (· (simp only [List.take_succ_cons, List.take_zero]; (repeat (first | go_big_quiet_skip | (go_big_quiet_want; first | (refine q_loadM ?_; simp only [Act.put, List.setIfInBounds_toArray, List.set_cons_zero, List.set_cons_succ]; go_big_quiet_on) | (refine q_load ?_; simp only [Act.put, List.setIfInBounds_toArray, List.set_cons_zero, List.set_cons_succ]; go_big_quiet_on) | (go_big_quiet_op; first | go_big_quiet_on)))); exact rfl)); have hs := hl.out.size; (try simp at hs); simp only [List.drop_succ_cons, List.drop_zero]))
                go_roundw
                case rel => exact ⟨j + 1, decide (z = t), by omega, by go_num, rfl, (fun h => by rw [← of_decide_eq_true h, ← HZ.out]; exact mem_at hlj), (fun h q hq => by
                  by_cases e : q = j
                  · subst e; rw [HZ.out]; exact of_decide_eq_false h
                  · exact hk2 q (by omega)), findLow⟩
                case measure => (simp [intOf]; try omega)
              · obtain rfl : A2.length = j := by omega
                have hnin : t ∉ A2 := fun h => by
                  obtain ⟨q, hq, he⟩ := at_mem h
                  exact hk2 q hq he
                have E1 : Hid (innA p ms A x (k + 1) = A2 ++ [t]) := Lib.hid (by rw [HS.out, if_neg hnin])
                have hO4 := OwnK.link (LowK.lnk hV4) hO1
                have hV5 := LowK.link (LowK.lnk hV4) hV1
                have r4 := RowK.link (LowK.lnk hV4) hbx
                have hz4 := hV4.size
                clear hO1 hV1 hbx hk2
                by_cases h2 : 200 < A2.length + 1
                · have := HR.out.limit hG (by rw [HAA.out]; exact hlt) (Nat.lt_of_lt_of_le (by rw [E1.out, List.length_append]; exact h2) HMO.out)
                  obtain ⟨rfl, rfl⟩ := this
                  have h2' : (200 : Int) < (A2.length : Int) + 1 := by omega
                  go_wp2_with (first | (refine wl_loadM ?_) | (refine wl_load ?_) | (refine wl_fill1 ?_) | (refine wl_fill2 ?_) | (refine wl_storeM ?_) | (refine wl_makeM ?_; intro gm W' hgm hl hT; have hs := hl.out.size; (try simp at hs)) | (refine wl_store (h1 := mC_one _) ?_) | (refine wl_sliceM ?_) | (refine wl_append (he := eltMp) (h1 := mC_one _) ?_; intro v' w' ho hg hb; have hs := hg.size; (try simp at hs); rw [mCs_snoc] at ho; (try obtain ⟨gz, cz, rfl, hzb, hzl, -⟩ := OwnK.maps ho (by simp) (by omega))) | (refine wl_mapLook true ?_ (hM := findGom) (hv := by (first | exact decide_eq_true (by assumption)))) | (refine wl_mapLook false ?_ (hM := findGom) (hv := by (first | exact decide_eq_false (by assumption)))) | (refine wl_store ?_) | (refine wl_build ?_) | (refine wl_slice ?_) | (refine wl_append ?_; intro v' w' ho hg hb; have hs := hg.size; (try simp at hs); (try rw [ptCs_end] at ho); (try rw [ints_end] at ho); (try simp only [Nat.zero_add, Nat.reduceAdd, List.nil_append, List.cons_append] at ho)) | ((with_reducible apply region_gd (id := 11)); refine region_QNA (id := 11) 11 [⟨10, 10, #[.int .i64 0, .int .i64 0, .int .i64 0, .int .i64 0, .int .i64 0, .int .i64 0, .int .i64 0, .int .i64 0, .int .i64 0], 47⟩] (.k (.k (.k (.k (.k (.k (.k (.k (.k (.k (.d (.d (.d .n))))))))))))) ⟨(fun o ho ρ W => by obtain rfl : _ = o := Option.some.inj ho; simp [execOp, go_sem]), trivial⟩ ?_; apply Exists.intro; refine ⟨fun G => ?_, fun g W hl hg hd => ?_⟩; (· ((repeat (first | go_big_quiet_skip | (go_big_quiet_want; first | (refine q_loadM ?_; simp only [Act.put, List.setIfInBounds_toArray, List.set_cons_zero, List.set_cons_succ]; go_big_quiet_on) | (refine q_load ?_; simp only [Act.put, List.setIfInBounds_toArray, List.set_cons_zero, List.set_cons_succ]; go_big_quiet_on) | (go_big_quiet_op; first | go_big_quiet_on)))); exact rfl)); obtain ⟨⟨q10, k10⟩, -⟩ := hg; have hs := hl.out.size; (try simp at hs); dsimp only at q10 k10; (try simp at q10); have l10 := k10.lt; clear hd; simp only [List.map_cons, List.map_nil, puts, Act.put, List.setIfInBounds_toArray, List.set_cons_zero, List.set_cons_succ, List.drop_succ_cons, List.drop_zero]; generalize g 10 = g10 at *; skip) | ((with_reducible apply region_gd (id := 15)); refine region_QA (id := 15) 7 ?_; apply Exists.intro; refine ⟨fun G => ?_, fun W hl => ?_⟩; (· (simp only [List.take_succ_cons, List.take_zero]; (repeat (first | go_big_quiet_skip | (go_big_quiet_want; first | (refine q_loadM ?_; simp only [Act.put, List.setIfInBounds_toArray, List.set_cons_zero, List.set_cons_succ]; go_big_quiet_on) | (refine q_load ?_; simp only [Act.put, List.setIfInBounds_toArray, List.set_cons_zero, List.set_cons_succ]; go_big_quiet_on) | (go_big_quiet_op; first | go_big_quiet_on)))); exact rfl)); have hs := hl.out.size; (try simp at hs); simp only [List.drop_succ_cons, List.drop_zero]))
                  (apply ret_two Try.results10; (conv => lhs; whnf); (conv => lhs; whnf); exact rfl)
                  exact ret_ret rfl findLow
                · have h2' : ¬ (200 : Int) < (A2.length : Int) + 1 := by omega
                  go_wp2_with (first | (refine wl_loadM ?_) | (refine wl_load ?_) | (refine wl_fill1 ?_) | (refine wl_fill2 ?_) | (refine wl_storeM ?_) | (refine wl_makeM ?_; intro gm W' hgm hl hT; have hs := hl.out.size; (try simp at hs)) | (refine wl_store (h1 := mC_one _) ?_) | (refine wl_sliceM ?_) | (refine wl_append (he := eltMp) (h1 := mC_one _) ?_; intro v' w' ho hg hb; have hs := hg.size; (try simp at hs); rw [mCs_snoc] at ho; (try obtain ⟨gz, cz, rfl, hzb, hzl, -⟩ := OwnK.maps ho (by simp) (by omega))) | (refine wl_mapLook true ?_ (hM := findGom) (hv := by (first | exact decide_eq_true (by assumption)))) | (refine wl_mapLook false ?_ (hM := findGom) (hv := by (first | exact decide_eq_false (by assumption)))) | (refine wl_store ?_) | (refine wl_build ?_) | (refine wl_slice ?_) | (refine wl_append ?_; intro v' w' ho hg hb; have hs := hg.size; (try simp at hs); (try rw [ptCs_end] at ho); (try rw [ints_end] at ho); (try simp only [Nat.zero_add, Nat.reduceAdd, List.nil_append, List.cons_append] at ho)) | ((with_reducible apply region_gd (id := 11)); refine region_QNA (id := 11) 11 [⟨10, 10, #[.int .i64 0, .int .i64 0, .int .i64 0, .int .i64 0, .int .i64 0, .int .i64 0, .int .i64 0, .int .i64 0, .int .i64 0], 47⟩] (.k (.k (.k (.k (.k (.k (.k (.k (.k (.k (.d (.d (.d .n))))))))))))) ⟨(fun o ho ρ W => by obtain rfl : _ = o := Option.some.inj ho; simp [execOp, go_sem]), trivial⟩ ?_; apply Exists.intro; refine ⟨fun G => ?_, fun g W hl hg hd => ?_⟩; (· ((repeat (first | go_big_quiet_skip | (go_big_quiet_want; first | (refine q_loadM ?_; simp only [Act.put, List.setIfInBounds_toArray, List.set_cons_zero, List.set_cons_succ]; go_big_quiet_on) | (refine q_load ?_; simp only [Act.put, List.setIfInBounds_toArray, List.set_cons_zero, List.set_cons_succ]; go_big_quiet_on) | (go_big_quiet_op; first | go_big_quiet_on)))); exact rfl)); obtain ⟨⟨q10, k10⟩, -⟩ := hg; have hs := hl.out.size; (try simp at hs); dsimp only at q10 k10; (try simp at q10); have l10 := k10.lt; clear hd; simp only [List.map_cons, List.map_nil, puts, Act.put, List.setIfInBounds_toArray, List.set_cons_zero, List.set_cons_succ, List.drop_succ_cons, List.drop_zero]; generalize g 10 = g10 at *; skip) | ((with_reducible apply region_gd (id := 15)); refine region_QA (id := 15) 7 ?_; apply Exists.intro; refine ⟨fun G => ?_, fun W hl => ?_⟩; (· (simp only [List.take_succ_cons, List.take_zero]; (repeat (first | go_big_quiet_skip | (go_big_quiet_want; first | (refine q_loadM ?_; simp only [Act.put, List.setIfInBounds_toArray, List.set_cons_zero, List.set_cons_succ]; go_big_quiet_on) | (refine q_load ?_; simp only [Act.put, List.setIfInBounds_toArray, List.set_cons_zero, List.set_cons_succ]; go_big_quiet_on) | (go_big_quiet_op; first | go_big_quiet_on)))); exact rfl)); have hs := hl.out.size; (try simp at hs); simp only [List.drop_succ_cons, List.drop_zero]))
                  go_roundw
                  case rel => exact ⟨k + 1, by omega, by go_num, by rw [E1.out, List.length_append]; show A2.length + 1 ≤ 200; omega, by rw [E1.out, List.length_append]; exact ho, findLow, (by first | omega | (simp; omega))⟩
                  case measure => (simp [intOf]; try omega)
            · have hmem := hk1 rfl
              have E1 : Hid (innA p ms A x (k + 1) = A2) := Lib.hid (by rw [HS.out, if_pos hmem])
              have hO4 := OwnK.link (LowK.lnk hV4) hO1
              have hV5 := LowK.link (LowK.lnk hV4) hV1
              have hz4 := hV4.size
              clear hO1 hV1 hbx hk1 hk2
              have h2' : ¬ (200 : Int) < (A2.length : Int) := by omega
              by_cases hlj : j < A2.length
              · go_wp2_with (first | (refine wl_loadM ?_) | (refine wl_load ?_) | (refine wl_fill1 ?_) | (refine wl_fill2 ?_) | (refine wl_storeM ?_) | (refine wl_makeM ?_; intro gm W' hgm hl hT; have hs := hl.out.size; (try simp at hs)) | (refine wl_store (h1 := mC_one _) ?_) | (refine wl_sliceM ?_) | (refine wl_append (he := eltMp) (h1 := mC_one _) ?_; intro v' w' ho hg hb; have hs := hg.size; (try simp at hs); rw [mCs_snoc] at ho; (try obtain ⟨gz, cz, rfl, hzb, hzl, -⟩ := OwnK.maps ho (by simp) (by omega))) | (refine wl_mapLook true ?_ (hM := findGom) (hv := by (first | exact decide_eq_true (by assumption)))) | (refine wl_mapLook false ?_ (hM := findGom) (hv := by (first | exact decide_eq_false (by assumption)))) | (refine wl_store ?_) | (refine wl_build ?_) | (refine wl_slice ?_) | (refine wl_append ?_; intro v' w' ho hg hb; have hs := hg.size; (try simp at hs); (try rw [ptCs_end] at ho); (try rw [ints_end] at ho); (try simp only [Nat.zero_add, Nat.reduceAdd, List.nil_append, List.cons_append] at ho)) | ((with_reducible apply region_gd (id := 11)); refine region_QNA (id := 11) 11 [⟨10, 10, #[.int .i64 0, .int .i64 0, .int .i64 0, .int .i64 0, .int .i64 0, .int .i64 0, .int .i64 0, .int .i64 0, .int .i64 0], 47⟩] (.k (.k (.k (.k (.k (.k (.k (.k (.k (.k (.d (.d (.d .n))))))))))))) ⟨(fun o ho ρ W => by obtain rfl : _ = o := Option.some.inj ho; simp [execOp, go_sem]), trivial⟩ ?_; apply Exists.intro; refine ⟨fun G => ?_, fun g W hl hg hd => ?_⟩; (· ((repeat (first | go_big_quiet_skip | (go_big_quiet_want; first | (refine q_loadM ?_; simp only [Act.put, List.setIfInBounds_toArray, List.set_cons_zero, List.set_cons_succ]; go_big_quiet_on) | (refine q_load ?_; simp only [Act.put, List.setIfInBounds_toArray, List.set_cons_zero, List.set_cons_succ]; go_big_quiet_on) | (go_big_quiet_op; first | go_big_quiet_on)))); exact rfl)); obtain ⟨⟨q10, k10⟩, -⟩ := hg; have hs := hl.out.size; (try simp at hs); dsimp only at q10 k10; (try simp at q10); have l10 := k10.lt; clear hd; simp only [List.map_cons, List.map_nil, puts, Act.put, List.setIfInBounds_toArray, List.set_cons_zero, List.set_cons_succ, List.drop_succ_cons, List.drop_zero]; generalize g 10 = g10 at *; skip) | ((with_reducible apply region_gd (id := 15)); refine region_QA (id := 15) 7 ?_; apply Exists.intro; refine ⟨fun G => ?_, fun W hl => ?_⟩; (· (simp only [List.take_succ_cons, List.take_zero]; (repeat (first | go_big_quiet_skip | (go_big_quiet_want; first | (refine q_loadM ?_; simp only [Act.put, List.setIfInBounds_toArray, List.set_cons_zero, List.set_cons_succ]; go_big_quiet_on) | (refine q_load ?_; simp only [Act.put, List.setIfInBounds_toArray, List.set_cons_zero, List.set_cons_succ]; go_big_quiet_on) | (go_big_quiet_op; first | go_big_quiet_on)))); exact rfl)); have hs := hl.out.size; (try simp at hs); simp only [List.drop_succ_cons, List.drop_zero]))
                go_roundw
                case rel => exact ⟨k + 1, by omega, by go_num, by rw [E1.out]; exact hk200, by rw [E1.out]; exact findOwn, findLow, (by first | omega | (simp; omega))⟩
                case measure => (simp [intOf]; try omega)
              · go_wp2_with (first | (refine wl_loadM ?_) | (refine wl_load ?_) | (refine wl_fill1 ?_) | (refine wl_fill2 ?_) | (refine wl_storeM ?_) | (refine wl_makeM ?_; intro gm W' hgm hl hT; have hs := hl.out.size; (try simp at hs)) | (refine wl_store (h1 := mC_one _) ?_) | (refine wl_sliceM ?_) | (refine wl_append (he := eltMp) (h1 := mC_one _) ?_; intro v' w' ho hg hb; have hs := hg.size; (try simp at hs); rw [mCs_snoc] at ho; (try obtain ⟨gz, cz, rfl, hzb, hzl, -⟩ := OwnK.maps ho (by simp) (by omega))) | (refine wl_mapLook true ?_ (hM := findGom) (hv := by (first | exact decide_eq_true (by assumption)))) | (refine wl_mapLook false ?_ (hM := findGom) (hv := by (first | exact decide_eq_false (by assumption)))) | (refine wl_store ?_) | (refine wl_build ?_) | (refine wl_slice ?_) | (refine wl_append ?_; intro v' w' ho hg hb; have hs := hg.size; (try simp at hs); (try rw [ptCs_end] at ho); (try rw [ints_end] at ho); (try simp only [Nat.zero_add, Nat.reduceAdd, List.nil_append, List.cons_append] at ho)) | ((with_reducible apply region_gd (id := 11)); refine region_QNA (id := 11) 11 [⟨10, 10, #[.int .i64 0, .int .i64 0, .int .i64 0, .int .i64 0, .int .i64 0, .int .i64 0, .int .i64 0, .int .i64 0, .int .i64 0], 47⟩] (.k (.k (.k (.k (.k (.k (.k (.k (.k (.k (.d (.d (.d .n))))))))))))) ⟨(fun o ho ρ W => by obtain rfl : _ = o := Option.some.inj ho; simp [execOp, go_sem]), trivial⟩ ?_; apply Exists.intro; refine ⟨fun G => ?_, fun g W hl hg hd => ?_⟩; (· ((repeat (first | go_big_quiet_skip | (go_big_quiet_want; first | (refine q_loadM ?_; simp only [Act.put, List.setIfInBounds_toArray, List.set_cons_zero, List.set_cons_succ]; go_big_quiet_on) | (refine q_load ?_; simp only [Act.put, List.setIfInBounds_toArray, List.set_cons_zero, List.set_cons_succ]; go_big_quiet_on) | (go_big_quiet_op; first | go_big_quiet_on)))); exact rfl)); obtain ⟨⟨q10, k10⟩, -⟩ := hg; have hs := hl.out.size; (try simp at hs); dsimp only at q10 k10; (try simp at q10); have l10 := k10.lt; clear hd; simp only [List.map_cons, List.map_nil, puts, Act.put, List.setIfInBounds_toArray, List.set_cons_zero, List.set_cons_succ, List.drop_succ_cons, List.drop_zero]; generalize g 10 = g10 at *; skip) | ((with_reducible apply region_gd (id := 15)); refine region_QA (id := 15) 7 ?_; apply Exists.intro; refine ⟨fun G => ?_, fun W hl => ?_⟩; (· (simp only [List.take_succ_cons, List.take_zero]; (repeat (first | go_big_quiet_skip | (go_big_quiet_want; first | (refine q_loadM ?_; simp only [Act.put, List.setIfInBounds_toArray, List.set_cons_zero, List.set_cons_succ]; go_big_quiet_on) | (refine q_load ?_; simp only [Act.put, List.setIfInBounds_toArray, List.set_cons_zero, List.set_cons_succ]; go_big_quiet_on) | (go_big_quiet_op; first | go_big_quiet_on)))); exact rfl)); have hs := hl.out.size; (try simp at hs); simp only [List.drop_succ_cons, List.drop_zero]))
                go_roundw
                case rel => exact ⟨k + 1, by omega, by go_num, by rw [E1.out]; exact hk200, by rw [E1.out]; exact findOwn, findLow, (by first | omega | (simp; omega))⟩
                case measure => (simp [intOf]; try omega)
        · obtain rfl : n = k := by omega
          have es := seqA_succ HAA.out HX.out hml
          have hpos2 := seqA_pos p ms (i + 1)
          obtain ⟨A2, hA2⟩ : ∃ A2, innA p ms A x n = A2 := ⟨_, rfl⟩
          rw [hA2] at hO hk200 hpre es
          have HE := Lib.hid es
          clear hA2 es
          go_wp2_with (first | (refine wl_loadM ?_) | (refine wl_load ?_) | (refine wl_fill1 ?_) | (refine wl_fill2 ?_) | (refine wl_storeM ?_) | (refine wl_makeM ?_; intro gm W' hgm hl hT; have hs := hl.out.size; (try simp at hs)) | (refine wl_store (h1 := mC_one _) ?_) | (refine wl_sliceM ?_) | (refine wl_append (he := eltMp) (h1 := mC_one _) ?_; intro v' w' ho hg hb; have hs := hg.size; (try simp at hs); rw [mCs_snoc] at ho; (try obtain ⟨gz, cz, rfl, hzb, hzl, -⟩ := OwnK.maps ho (by simp) (by omega))) | (refine wl_mapLook true ?_ (hM := findGom) (hv := by (first | exact decide_eq_true (by assumption)))) | (refine wl_mapLook false ?_ (hM := findGom) (hv := by (first | exact decide_eq_false (by assumption)))) | (refine wl_store ?_) | (refine wl_build ?_) | (refine wl_slice ?_) | (refine wl_append ?_; intro v' w' ho hg hb; have hs := hg.size; (try simp at hs); (try rw [ptCs_end] at ho); (try rw [ints_end] at ho); (try simp only [Nat.zero_add, Nat.reduceAdd, List.nil_append, List.cons_append] at ho)) | ((with_reducible apply region_gd (id := 11)); refine region_QNA (id := 11) 11 [⟨10, 10, #[.int .i64 0, .int .i64 0, .int .i64 0, .int .i64 0, .int .i64 0, .int .i64 0, .int .i64 0, .int .i64 0, .int .i64 0], 47⟩] (.k (.k (.k (.k (.k (.k (.k (.k (.k (.k (.d (.d (.d .n))))))))))))) ⟨(fun o ho ρ W => by obtain rfl : _ = o := Option.some.inj ho; simp [execOp, go_sem]), trivial⟩ ?_; apply Exists.intro; refine ⟨fun G => ?_, fun g W hl hg hd => ?_⟩; (· ((repeat (first | go_big_quiet_skip | (go_big_quiet_want; first | (refine q_loadM ?_; simp only [Act.put, List.setIfInBounds_toArray, List.set_cons_zero, List.set_cons_succ]; go_big_quiet_on) | (refine q_load ?_; simp only [Act.put, List.setIfInBounds_toArray, List.set_cons_zero, List.set_cons_succ]; go_big_quiet_on) | (go_big_quiet_op; first | go_big_quiet_on)))); exact rfl)); obtain ⟨⟨q10, k10⟩, -⟩ := hg; have hs := hl.out.size; (try simp at hs); dsimp only at q10 k10; (try simp at q10); have l10 := k10.lt; clear hd; simp only [List.map_cons, List.map_nil, puts, Act.put, List.setIfInBounds_toArray, List.set_cons_zero, List.set_cons_succ, List.drop_succ_cons, List.drop_zero]; generalize g 10 = g10 at *; skip) | ((with_reducible apply region_gd (id := 15)); refine region_QA (id := 15) 7 ?_; apply Exists.intro; refine ⟨fun G => ?_, fun W hl => ?_⟩; (· (simp only [List.take_succ_cons, List.take_zero]; (repeat (first | go_big_quiet_skip | (go_big_quiet_want; first | (refine q_loadM ?_; simp only [Act.put, List.setIfInBounds_toArray, List.set_cons_zero, List.set_cons_succ]; go_big_quiet_on) | (refine q_load ?_; simp only [Act.put, List.setIfInBounds_toArray, List.set_cons_zero, List.set_cons_succ]; go_big_quiet_on) | (go_big_quiet_op; first | go_big_quiet_on)))); exact rfl)); have hs := hl.out.size; (try simp at hs); simp only [List.drop_succ_cons, List.drop_zero]))
          go_roundw
          case rel =>
            refine ⟨i + 1, fun j hj => ?_, by rw [HE.out]; omega, by go_num, by rw [HE.out]; exact findOwn, findLow, (by first | omega | (simp; omega))⟩
            by_cases ej : j = i
            · subst ej; exact ⟨by rw [HAA.out]; exact hlt, by rw [HE.out]; omega⟩
            · exact hG j (by omega)
          case measure => (simp [intOf]; try omega)
    · have hie : A.length = i := by omega
      have := (HR.out.whole hG (by rw [HAA.out, hie]))
      obtain ⟨rfl, rfl⟩ := this
      go_wp2_with (first | (refine wl_loadM ?_) | (refine wl_load ?_) | (refine wl_fill1 ?_) | (refine wl_fill2 ?_) | (refine wl_storeM ?_) | (refine wl_makeM ?_; intro gm W' hgm hl hT; have hs := hl.out.size; (try simp at hs)) | (refine wl_store (h1 := mC_one _) ?_) | (refine wl_sliceM ?_) | (refine wl_append (he := eltMp) (h1 := mC_one _) ?_; intro v' w' ho hg hb; have hs := hg.size; (try simp at hs); rw [mCs_snoc] at ho; (try obtain ⟨gz, cz, rfl, hzb, hzl, -⟩ := OwnK.maps ho (by simp) (by omega))) | (refine wl_mapLook true ?_ (hM := findGom) (hv := by (first | exact decide_eq_true (by assumption)))) | (refine wl_mapLook false ?_ (hM := findGom) (hv := by (first | exact decide_eq_false (by assumption)))) | (refine wl_store ?_) | (refine wl_build ?_) | (refine wl_slice ?_) | (refine wl_append ?_; intro v' w' ho hg hb; have hs := hg.size; (try simp at hs); (try rw [ptCs_end] at ho); (try rw [ints_end] at ho); (try simp only [Nat.zero_add, Nat.reduceAdd, List.nil_append, List.cons_append] at ho)) | ((with_reducible apply region_gd (id := 11)); refine region_QNA (id := 11) 11 [⟨10, 10, #[.int .i64 0, .int .i64 0, .int .i64 0, .int .i64 0, .int .i64 0, .int .i64 0, .int .i64 0, .int .i64 0, .int .i64 0], 47⟩] (.k (.k (.k (.k (.k (.k (.k (.k (.k (.k (.d (.d (.d .n))))))))))))) ⟨(fun o ho ρ W => by obtain rfl : _ = o := Option.some.inj ho; simp [execOp, go_sem]), trivial⟩ ?_; apply Exists.intro; refine ⟨fun G => ?_, fun g W hl hg hd => ?_⟩; (· ((repeat (first | go_big_quiet_skip | (go_big_quiet_want; first | (refine q_loadM ?_; simp only [Act.put, List.setIfInBounds_toArray, List.set_cons_zero, List.set_cons_succ]; go_big_quiet_on) | (refine q_load ?_; simp only [Act.put, List.setIfInBounds_toArray, List.set_cons_zero, List.set_cons_succ]; go_big_quiet_on) | (go_big_quiet_op; first | go_big_quiet_on)))); exact rfl)); obtain ⟨⟨q10, k10⟩, -⟩ := hg; have hs := hl.out.size; (try simp at hs); dsimp only at q10 k10; (try simp at q10); have l10 := k10.lt; clear hd; simp only [List.map_cons, List.map_nil, puts, Act.put, List.setIfInBounds_toArray, List.set_cons_zero, List.set_cons_succ, List.drop_succ_cons, List.drop_zero]; generalize g 10 = g10 at *; skip) | ((with_reducible apply region_gd (id := 15)); refine region_QA (id := 15) 7 ?_; apply Exists.intro; refine ⟨fun G => ?_, fun W hl => ?_⟩; (· (simp only [List.take_succ_cons, List.take_zero]; (repeat (first | go_big_quiet_skip | (go_big_quiet_want; first | (refine q_loadM ?_; simp only [Act.put, List.setIfInBounds_toArray, List.set_cons_zero, List.set_cons_succ]; go_big_quiet_on) | (refine q_load ?_; simp only [Act.put, List.setIfInBounds_toArray, List.set_cons_zero, List.set_cons_succ]; go_big_quiet_on) | (go_big_quiet_op; first | go_big_quiet_on)))); exact rfl)); have hs := hl.out.size; (try simp at hs); simp only [List.drop_succ_cons, List.drop_zero]))
      (apply ret_two Try.results10; (conv => lhs; whnf); (conv => lhs; whnf); exact rfl)
      exact ret_ret rfl findLow
end Go.Proofs.Ytnpmdchphaenaaa
/- Contracts: the program's GroupOrder. -- maps -- gomaps -/
namespace Go.Proofs.Ytnpmdchphaenaaa
open Go.RowKit
set_option linter.unusedVariables false
set_option linter.unusedSimpArgs false
set_option pp.deepTerms false
set_option pp.deepTerms.threshold 10
set_option maxRecDepth 20000 in
set_option maxHeartbeats 8000000 in
theorem GroupOrder_impl_core (p : Int) (b : Option Addr) (n c : Nat) (ms : List M9) (w : World) (hp : prB p = true) (hn : n ≤ 8) (hms : ListM w b n ms) (hin : ∀ m ∈ ms, InM m) (hcode : codeML p n (oksM p ms && ptsB p []) = 0) (r e : Int)
    (hr : OutA p ms r e) :
    Calls Try.prog 9 #[.int .i64 p, .slice b n c] w (Ret w (.tuple #[.int .i64 r, .int .i64 e])) := by
  have HC : Hid (∀ W, Link w W → Calls Try.prog 15 #[.int .i64 p, .slice b n c, .slice none 0 0] W (Ret W (.int .i64 0))) := Lib.hid (fun W l => by
    have := listCode_M p b n c ms none 0 0 [] W (by omega) (by omega) (hms.link l) ⟨rfl, fun h => absurd h (Nat.lt_irrefl _)⟩
    rwa [hcode] at this)
  have HR := Lib.hid hr
  clear hr hcode
  go_enter Try.func9, Try.ntmps9
  go_wp2_with (first | (refine wl_loadM ?_) | (refine wl_load ?_) | (refine wl_fill1 ?_) | (refine wl_fill2 ?_) | (refine wl_storeM ?_) | (refine wl_makeM ?_; intro gm W' hgm hl hT; have hs := hl.out.size; (try simp at hs)) | (refine wl_store (h1 := mC_one _) ?_) | (refine wl_sliceM ?_) | (refine wl_append (he := eltMp) (h1 := mC_one _) ?_; intro v' w' ho hg hb; have hs := hg.size; (try simp at hs); rw [mCs_snoc] at ho; (try obtain ⟨gz, cz, rfl, hzb, hzl, -⟩ := OwnK.maps ho (by simp) (by omega))) | (refine wl_mapLook true ?_ (hM := findGom) (hv := by (first | exact decide_eq_true (by assumption)))) | (refine wl_mapLook false ?_ (hM := findGom) (hv := by (first | exact decide_eq_false (by assumption)))) | (refine wl_store ?_) | (refine wl_build ?_) | (refine wl_slice ?_) | (refine wl_append ?_; intro v' w' ho hg hb; have hs := hg.size; (try simp at hs); (try rw [ptCs_end] at ho); (try rw [ints_end] at ho); (try simp only [Nat.zero_add, Nat.reduceAdd, List.nil_append, List.cons_append] at ho)) | (go_at_call 15; (with_reducible refine (HC.out _ (LowK.lnk findLow)).mono ?_); rintro e w' ⟨rfl, hb⟩; have hl := Link.mk hb; have hs := hb.size; (try simp at hs); clear hb) | ((with_reducible apply region_gd (id := 11)); refine region_QNA (id := 11) 8 [⟨7, 12, #[.int .i64 0, .int .i64 0, .int .i64 0, .int .i64 0, .int .i64 0, .int .i64 0, .int .i64 0, .int .i64 0, .int .i64 0], 47⟩] (.k (.k (.k (.k (.k (.k (.k (.d (.d .n))))))))) ⟨(fun o ho ρ W => by obtain rfl : _ = o := Option.some.inj ho; simp [execOp, go_sem]), trivial⟩ ?_; apply Exists.intro; refine ⟨fun G => ?_, fun g W hl hg hd => ?_⟩; (· ((repeat (first | go_big_quiet_skip | (go_big_quiet_want; first | (refine q_loadM ?_; simp only [Act.put, List.setIfInBounds_toArray, List.set_cons_zero, List.set_cons_succ]; go_big_quiet_on) | (refine q_load ?_; simp only [Act.put, List.setIfInBounds_toArray, List.set_cons_zero, List.set_cons_succ]; go_big_quiet_on) | (go_big_quiet_op; first | go_big_quiet_on | (apply Exists.intro; refine ⟨fun g => ?_, ?_⟩; (· (have hl := growL g; first | (go_at_call 15; with_reducible exact grow_ret (HC.out _ (LowK.lnk findLow))))); go_big_quiet_on))))); exact rfl)); obtain ⟨⟨q12, k12⟩, -⟩ := hg; have hs := hl.out.size; (try simp at hs); dsimp only at q12 k12; (try simp at q12); have l12 := k12.lt; clear hd; simp only [List.map_cons, List.map_nil, puts, Act.put, List.setIfInBounds_toArray, List.set_cons_zero, List.set_cons_succ, List.drop_succ_cons, List.drop_zero]; generalize g 12 = g12 at *; skip))
  refine with_act (fun a0 hA => ?_)
  obtain ⟨B, hB⟩ : ∃ B, w'.heap.size = B := ⟨_, rfl⟩
  have hB1 := Nat.le_of_eq hB
  have hB2 := Nat.le_of_eq hB.symm
  have hBw : w.heap.size ≤ B := by have := LowK.size (w := w) (W := w') findLow; omega
  clear hB
  refine region_inv (id := 4) (fun S a W => ∃ x19 x20 x21 x22 x23 x7 x8, a = puts a0 [(19, x19), (20, x20), (21, x21), (22, x22), (23, x23), (7, x7), (8, x8)] ∧ LowK w W ∧ B ≤ W.heap.size ∧ (On S 0 → x19 = mV oneM) ∧ (On S 3 → x22 = mV oneM) ∧ (On S 1 → ∃ g, x20 = .slice (some ⟨g, 0, none⟩) 1 1 ∧ B ≤ g ∧ RowK W g (mC oneM) 47) ∧ (On S 2 → ∃ gm, x21 = .map (some gm) ∧ B ≤ gm ∧ (Of S 4 → GoMapK W gm []) ∧ (On S 4 → GoMapK W gm [oneM])) ∧ (On S 5 → x23 = x21) ∧ (On S 6 → x7 = x20) ∧ (On S 7 → x8 = x23) ∧ (On S 4 → On S 2) ∧ (On S 5 → On S 2) ∧ (On S 6 → On S 1) ∧ (On S 7 → On S 5)) (by kernel_rfl) (by kernel_rfl) ?_ ?_ ?_
  · exact ⟨undef, undef, undef, undef, undef, undef, undef, (by rw [hA]; rfl), (LowK.drew findLow), hB2, (fun q => q.none.elim), (fun q => q.none.elim), (fun q => q.none.elim), (fun q => q.none.elim), (fun q => q.none.elim), (fun q => q.none.elim), (fun q => q.none.elim), (fun q => q.none.elim), (fun q => q.none.elim), (fun q => q.none.elim), (fun q => q.none.elim)⟩
  · rintro S a W i o ⟨x19, x20, x21, x22, x23, x7, x8, rfl, hLw, hsz, f0, f3, f1, f2, f5, f6, f7, f42, f52, f61, f75⟩ hS hi hno hpre
    have Hno : Of S i := ⟨hno⟩
    subst hA
    simp only [puts, Act.put, List.setIfInBounds_toArray, List.set_cons_zero, List.set_cons_succ]
    rcases i with _ | _ | _ | _ | _ | _ | _ | _ | i
    · obtain rfl : _ = o := Option.some.inj hi
      go_wp2_with (first | (refine wl_loadM ?_) | (refine wl_load ?_) | (refine wl_fill1 ?_) | (refine wl_fill2 ?_) | (refine wl_storeM ?_) | (refine wl_makeM ?_; intro gm W' hgm hl hT; have hs := hl.out.size; (try simp at hs)) | (refine wl_store (h1 := mC_one _) ?_) | (refine wl_sliceM ?_) | (refine wl_append (he := eltMp) (h1 := mC_one _) ?_; intro v' w' ho hg hb; have hs := hg.size; (try simp at hs); rw [mCs_snoc] at ho; (try obtain ⟨gz, cz, rfl, hzb, hzl, -⟩ := OwnK.maps ho (by simp) (by omega))) | (refine wl_mapLook true ?_ (hM := findGom) (hv := by (first | exact decide_eq_true (by assumption)))) | (refine wl_mapLook false ?_ (hM := findGom) (hv := by (first | exact decide_eq_false (by assumption)))) | (refine wl_store ?_) | (refine wl_build ?_) | (refine wl_slice ?_) | (refine wl_append ?_; intro v' w' ho hg hb; have hs := hg.size; (try simp at hs); (try rw [ptCs_end] at ho); (try rw [ints_end] at ho); (try simp only [Nat.zero_add, Nat.reduceAdd, List.nil_append, List.cons_append] at ho)) | (go_at_call 22; (with_reducible refine (unit_M _).mono ?_); rintro e w' ⟨rfl, hb⟩; have hl := Link.mk hb; have hs := hb.size; (try simp at hs); clear hb) | ((with_reducible apply region_gd (id := 11)); refine region_QNA (id := 11) 8 [⟨7, 12, #[.int .i64 0, .int .i64 0, .int .i64 0, .int .i64 0, .int .i64 0, .int .i64 0, .int .i64 0, .int .i64 0, .int .i64 0], 47⟩] (.k (.k (.k (.k (.k (.k (.k (.d (.d .n))))))))) ⟨(fun o ho ρ W => by obtain rfl : _ = o := Option.some.inj ho; simp [execOp, go_sem]), trivial⟩ ?_; apply Exists.intro; refine ⟨fun G => ?_, fun g W hl hg hd => ?_⟩; (· ((repeat (first | go_big_quiet_skip | (go_big_quiet_want; first | (refine q_loadM ?_; simp only [Act.put, List.setIfInBounds_toArray, List.set_cons_zero, List.set_cons_succ]; go_big_quiet_on) | (refine q_load ?_; simp only [Act.put, List.setIfInBounds_toArray, List.set_cons_zero, List.set_cons_succ]; go_big_quiet_on) | (go_big_quiet_op; first | go_big_quiet_on | (apply Exists.intro; refine ⟨fun g => ?_, ?_⟩; (· (have hl := growL g; first | (go_at_call 22; with_reducible exact grow_ret (unit_M _)))); go_big_quiet_on))))); exact rfl)); obtain ⟨⟨q12, k12⟩, -⟩ := hg; have hs := hl.out.size; (try simp at hs); dsimp only at q12 k12; (try simp at q12); have l12 := k12.lt; clear hd; simp only [List.map_cons, List.map_nil, puts, Act.put, List.setIfInBounds_toArray, List.set_cons_zero, List.set_cons_succ, List.drop_succ_cons, List.drop_zero]; generalize g 12 = g12 at *; skip))
      exact ⟨rfl, ⟨_, rfl⟩, mV oneM, x20, x21, x22, x23, x7, x8, rfl, findLow, (by first | omega | (simp; omega)), (fun _ => rfl), (fun q => f3 (On.back (by decide) q)), (fun q => by obtain ⟨g, e1, hg, hr⟩ := f1 (On.back (by decide) q); exact ⟨g, e1, hg, (hr).link hl⟩), (fun q => by obtain ⟨gm, e1, hg, m0, m1⟩ := f2 (On.back (by decide) q); exact ⟨gm, e1, hg, (fun q => (m0 (Of.fwd (by decide) q)).link hl), (fun q => (m1 (On.back (by decide) q)).link hl)⟩), (fun q => f5 (On.back (by decide) q)), (fun q => f6 (On.back (by decide) q)), (fun q => f7 (On.back (by decide) q)), (fun q => (f42 (On.back (by decide) q)).on), (fun q => (f52 (On.back (by decide) q)).on), (fun q => (f61 (On.back (by decide) q)).on), (fun q => (f75 (On.back (by decide) q)).on)⟩
    · obtain rfl : _ = o := Option.some.inj hi
      have p0 := pre_on (k := 0) (by kernel_rfl) hpre
      obtain rfl := f0 p0
      go_wp2_with (refine wl_sliceM ?_)
      exact ⟨rfl, ⟨_, rfl⟩, mV oneM, _, x21, x22, x23, x7, x8, rfl, findLow, (by first | omega | (simp; omega)), (fun _ => rfl), (fun q => f3 (On.back (by decide) q)), (fun _ => ⟨_, rfl, (by omega), findRow⟩), (fun q => by obtain ⟨gm, e1, hg, m0, m1⟩ := f2 (On.back (by decide) q); exact ⟨gm, e1, hg, (fun q => (m0 (Of.fwd (by decide) q)).alloc _), (fun q => (m1 (On.back (by decide) q)).alloc _)⟩), (fun q => f5 (On.back (by decide) q)), (fun q => ((f61 (On.back (by decide) q)).of Hno).elim), (fun q => f7 (On.back (by decide) q)), (fun q => (f42 (On.back (by decide) q)).on), (fun q => (f52 (On.back (by decide) q)).on), (fun q => (f61 (On.back (by decide) q)).on), (fun q => (f75 (On.back (by decide) q)).on)⟩
    · obtain rfl : _ = o := Option.some.inj hi
      go_wp2_with (refine wl_mapNew ?_)
      exact ⟨rfl, ⟨_, rfl⟩, x19, x20, _, x22, x23, x7, x8, rfl, findLow, (by first | omega | (simp; omega)), (fun q => f0 (On.back (by decide) q)), (fun q => f3 (On.back (by decide) q)), (fun q => by obtain ⟨g, e1, hg, hr⟩ := f1 (On.back (by decide) q); exact ⟨g, e1, hg, (hr).alloc _⟩), (fun _ => ⟨_, rfl, (by omega), (fun _ => GoMapK.new _), (fun q => ((f42 (On.back (by decide) q)).of Hno).elim)⟩), (fun q => ((f52 (On.back (by decide) q)).of Hno).elim), (fun q => f6 (On.back (by decide) q)), (fun q => f7 (On.back (by decide) q)), (fun q => (f42 (On.back (by decide) q)).on), (fun q => (f52 (On.back (by decide) q)).on), (fun q => (f61 (On.back (by decide) q)).on), (fun q => (f75 (On.back (by decide) q)).on)⟩
    · obtain rfl : _ = o := Option.some.inj hi
      have p0 := pre_on (k := 0) (by kernel_rfl) hpre
      obtain rfl := f0 p0
      go_wp2_with (first | (refine wl_loadM ?_) | (refine wl_load ?_) | (refine wl_fill1 ?_) | (refine wl_fill2 ?_) | (refine wl_storeM ?_) | (refine wl_makeM ?_; intro gm W' hgm hl hT; have hs := hl.out.size; (try simp at hs)) | (refine wl_store (h1 := mC_one _) ?_) | (refine wl_sliceM ?_) | (refine wl_append (he := eltMp) (h1 := mC_one _) ?_; intro v' w' ho hg hb; have hs := hg.size; (try simp at hs); rw [mCs_snoc] at ho; (try obtain ⟨gz, cz, rfl, hzb, hzl, -⟩ := OwnK.maps ho (by simp) (by omega))) | (refine wl_mapLook true ?_ (hM := findGom) (hv := by (first | exact decide_eq_true (by assumption)))) | (refine wl_mapLook false ?_ (hM := findGom) (hv := by (first | exact decide_eq_false (by assumption)))) | (refine wl_store ?_) | (refine wl_build ?_) | (refine wl_slice ?_) | (refine wl_append ?_; intro v' w' ho hg hb; have hs := hg.size; (try simp at hs); (try rw [ptCs_end] at ho); (try rw [ints_end] at ho); (try simp only [Nat.zero_add, Nat.reduceAdd, List.nil_append, List.cons_append] at ho)) | (go_at_call 22; (with_reducible refine (unit_M _).mono ?_); rintro e w' ⟨rfl, hb⟩; have hl := Link.mk hb; have hs := hb.size; (try simp at hs); clear hb) | ((with_reducible apply region_gd (id := 11)); refine region_QNA (id := 11) 8 [⟨7, 12, #[.int .i64 0, .int .i64 0, .int .i64 0, .int .i64 0, .int .i64 0, .int .i64 0, .int .i64 0, .int .i64 0, .int .i64 0], 47⟩] (.k (.k (.k (.k (.k (.k (.k (.d (.d .n))))))))) ⟨(fun o ho ρ W => by obtain rfl : _ = o := Option.some.inj ho; simp [execOp, go_sem]), trivial⟩ ?_; apply Exists.intro; refine ⟨fun G => ?_, fun g W hl hg hd => ?_⟩; (· ((repeat (first | go_big_quiet_skip | (go_big_quiet_want; first | (refine q_loadM ?_; simp only [Act.put, List.setIfInBounds_toArray, List.set_cons_zero, List.set_cons_succ]; go_big_quiet_on) | (refine q_load ?_; simp only [Act.put, List.setIfInBounds_toArray, List.set_cons_zero, List.set_cons_succ]; go_big_quiet_on) | (go_big_quiet_op; first | go_big_quiet_on | (apply Exists.intro; refine ⟨fun g => ?_, ?_⟩; (· (have hl := growL g; first | (go_at_call 22; with_reducible exact grow_ret (unit_M _)))); go_big_quiet_on))))); exact rfl)); obtain ⟨⟨q12, k12⟩, -⟩ := hg; have hs := hl.out.size; (try simp at hs); dsimp only at q12 k12; (try simp at q12); have l12 := k12.lt; clear hd; simp only [List.map_cons, List.map_nil, puts, Act.put, List.setIfInBounds_toArray, List.set_cons_zero, List.set_cons_succ, List.drop_succ_cons, List.drop_zero]; generalize g 12 = g12 at *; skip))
      exact ⟨rfl, ⟨_, rfl⟩, mV oneM, x20, x21, mV oneM, x23, x7, x8, rfl, findLow, (by first | omega | (simp; omega)), (fun _ => rfl), (fun _ => rfl), (fun q => by obtain ⟨g, e1, hg, hr⟩ := f1 (On.back (by decide) q); exact ⟨g, e1, hg, (hr).link hl⟩), (fun q => by obtain ⟨gm, e1, hg, m0, m1⟩ := f2 (On.back (by decide) q); exact ⟨gm, e1, hg, (fun q => (m0 (Of.fwd (by decide) q)).link hl), (fun q => (m1 (On.back (by decide) q)).link hl)⟩), (fun q => f5 (On.back (by decide) q)), (fun q => f6 (On.back (by decide) q)), (fun q => f7 (On.back (by decide) q)), (fun q => (f42 (On.back (by decide) q)).on), (fun q => (f52 (On.back (by decide) q)).on), (fun q => (f61 (On.back (by decide) q)).on), (fun q => (f75 (On.back (by decide) q)).on)⟩
    · obtain rfl : _ = o := Option.some.inj hi
      have p2 := pre_on (k := 2) (by kernel_rfl) hpre
      have p3 := pre_on (k := 3) (by kernel_rfl) hpre
      obtain ⟨gm, rfl, hgm, m0, m1⟩ := f2 p2
      obtain rfl := f3 p3
      have hM := m0 Hno
      go_wp2_with ((refine wl_mapUpd (g := gm) (L := []) (t := oneM) ?_ hM (by simp) rfl (by first | exact .inl rfl | exact .inr rfl)); intro W' hM2 hT; have hs2 := hT.out.1)
      exact ⟨rfl, ⟨undef, rfl⟩, x19, x20, _, mV oneM, x23, x7, x8, rfl, (LowK.turn hT (by omega) hLw), (by first | omega | (simp; omega)), (fun q => f0 (On.back (by decide) q)), (fun _ => rfl), (fun q => by obtain ⟨g, e1, hg, hr⟩ := f1 (On.back (by decide) q); exact ⟨g, e1, hg, (hr).turn hT hM⟩), (fun _ => ⟨gm, rfl, hgm, (fun q => (Of.no hS (by decide) q).elim), (fun _ => hM2)⟩), (fun q => f5 (On.back (by decide) q)), (fun q => f6 (On.back (by decide) q)), (fun q => f7 (On.back (by decide) q)), (fun _ => p2.on), (fun q => (f52 (On.back (by decide) q)).on), (fun q => (f61 (On.back (by decide) q)).on), (fun q => (f75 (On.back (by decide) q)).on)⟩
    · obtain rfl : _ = o := Option.some.inj hi
      have p2 := pre_on (k := 2) (by kernel_rfl) hpre
      have p3 := pre_on (k := 3) (by kernel_rfl) hpre
      have p4 := pre_on (k := 4) (by kernel_rfl) hpre
      obtain rfl := f3 p3
      go_wp2_with (first | (refine wl_loadM ?_) | (refine wl_load ?_) | (refine wl_fill1 ?_) | (refine wl_fill2 ?_) | (refine wl_storeM ?_) | (refine wl_makeM ?_; intro gm W' hgm hl hT; have hs := hl.out.size; (try simp at hs)) | (refine wl_store (h1 := mC_one _) ?_) | (refine wl_sliceM ?_) | (refine wl_append (he := eltMp) (h1 := mC_one _) ?_; intro v' w' ho hg hb; have hs := hg.size; (try simp at hs); rw [mCs_snoc] at ho; (try obtain ⟨gz, cz, rfl, hzb, hzl, -⟩ := OwnK.maps ho (by simp) (by omega))) | (refine wl_mapLook true ?_ (hM := findGom) (hv := by (first | exact decide_eq_true (by assumption)))) | (refine wl_mapLook false ?_ (hM := findGom) (hv := by (first | exact decide_eq_false (by assumption)))) | (refine wl_store ?_) | (refine wl_build ?_) | (refine wl_slice ?_) | (refine wl_append ?_; intro v' w' ho hg hb; have hs := hg.size; (try simp at hs); (try rw [ptCs_end] at ho); (try rw [ints_end] at ho); (try simp only [Nat.zero_add, Nat.reduceAdd, List.nil_append, List.cons_append] at ho)) | ((with_reducible apply region_gd (id := 11)); refine region_QNA (id := 11) 8 [⟨7, 12, #[.int .i64 0, .int .i64 0, .int .i64 0, .int .i64 0, .int .i64 0, .int .i64 0, .int .i64 0, .int .i64 0, .int .i64 0], 47⟩] (.k (.k (.k (.k (.k (.k (.k (.d (.d .n))))))))) ⟨(fun o ho ρ W => by obtain rfl : _ = o := Option.some.inj ho; simp [execOp, go_sem]), trivial⟩ ?_; apply Exists.intro; refine ⟨fun G => ?_, fun g W hl hg hd => ?_⟩; (· ((repeat (first | go_big_quiet_skip | (go_big_quiet_want; first | (refine q_loadM ?_; simp only [Act.put, List.setIfInBounds_toArray, List.set_cons_zero, List.set_cons_succ]; go_big_quiet_on) | (refine q_load ?_; simp only [Act.put, List.setIfInBounds_toArray, List.set_cons_zero, List.set_cons_succ]; go_big_quiet_on) | (go_big_quiet_op; first | go_big_quiet_on)))); exact rfl)); obtain ⟨⟨q12, k12⟩, -⟩ := hg; have hs := hl.out.size; (try simp at hs); dsimp only at q12 k12; (try simp at q12); have l12 := k12.lt; clear hd; simp only [List.map_cons, List.map_nil, puts, Act.put, List.setIfInBounds_toArray, List.set_cons_zero, List.set_cons_succ, List.drop_succ_cons, List.drop_zero]; generalize g 12 = g12 at *; skip))
      exact ⟨rfl, ⟨_, rfl⟩, x19, x20, x21, mV oneM, x21, x7, x8, rfl, findLow, (by first | omega | (simp; omega)), (fun q => f0 (On.back (by decide) q)), (fun _ => rfl), (fun q => by obtain ⟨g, e1, hg, hr⟩ := f1 (On.back (by decide) q); exact ⟨g, e1, hg, hr⟩), (fun q => by obtain ⟨gm, e1, hg, m0, m1⟩ := f2 (On.back (by decide) q); exact ⟨gm, e1, hg, (fun q => m0 (Of.fwd (by decide) q)), (fun q => m1 (On.back (by decide) q))⟩), (fun _ => rfl), (fun q => f6 (On.back (by decide) q)), (fun q => ((f75 (On.back (by decide) q)).of Hno).elim), (fun q => (f42 (On.back (by decide) q)).on), (fun _ => p2.on), (fun q => (f61 (On.back (by decide) q)).on), (fun q => (f75 (On.back (by decide) q)).on)⟩
    · obtain rfl : _ = o := Option.some.inj hi
      have p0 := pre_on (k := 0) (by kernel_rfl) hpre
      have p1 := pre_on (k := 1) (by kernel_rfl) hpre
      have p3 := pre_on (k := 3) (by kernel_rfl) hpre
      obtain rfl := f0 p0
      obtain rfl := f3 p3
      go_wp2_with (first | (refine wl_loadM ?_) | (refine wl_load ?_) | (refine wl_fill1 ?_) | (refine wl_fill2 ?_) | (refine wl_storeM ?_) | (refine wl_makeM ?_; intro gm W' hgm hl hT; have hs := hl.out.size; (try simp at hs)) | (refine wl_store (h1 := mC_one _) ?_) | (refine wl_sliceM ?_) | (refine wl_append (he := eltMp) (h1 := mC_one _) ?_; intro v' w' ho hg hb; have hs := hg.size; (try simp at hs); rw [mCs_snoc] at ho; (try obtain ⟨gz, cz, rfl, hzb, hzl, -⟩ := OwnK.maps ho (by simp) (by omega))) | (refine wl_mapLook true ?_ (hM := findGom) (hv := by (first | exact decide_eq_true (by assumption)))) | (refine wl_mapLook false ?_ (hM := findGom) (hv := by (first | exact decide_eq_false (by assumption)))) | (refine wl_store ?_) | (refine wl_build ?_) | (refine wl_slice ?_) | (refine wl_append ?_; intro v' w' ho hg hb; have hs := hg.size; (try simp at hs); (try rw [ptCs_end] at ho); (try rw [ints_end] at ho); (try simp only [Nat.zero_add, Nat.reduceAdd, List.nil_append, List.cons_append] at ho)) | ((with_reducible apply region_gd (id := 11)); refine region_QNA (id := 11) 8 [⟨7, 12, #[.int .i64 0, .int .i64 0, .int .i64 0, .int .i64 0, .int .i64 0, .int .i64 0, .int .i64 0, .int .i64 0, .int .i64 0], 47⟩] (.k (.k (.k (.k (.k (.k (.k (.d (.d .n))))))))) ⟨(fun o ho ρ W => by obtain rfl : _ = o := Option.some.inj ho; simp [execOp, go_sem]), trivial⟩ ?_; apply Exists.intro; refine ⟨fun G => ?_, fun g W hl hg hd => ?_⟩; (· ((repeat (first | go_big_quiet_skip | (go_big_quiet_want; first | (refine q_loadM ?_; simp only [Act.put, List.setIfInBounds_toArray, List.set_cons_zero, List.set_cons_succ]; go_big_quiet_on) | (refine q_load ?_; simp only [Act.put, List.setIfInBounds_toArray, List.set_cons_zero, List.set_cons_succ]; go_big_quiet_on) | (go_big_quiet_op; first | go_big_quiet_on)))); exact rfl)); obtain ⟨⟨q12, k12⟩, -⟩ := hg; have hs := hl.out.size; (try simp at hs); dsimp only at q12 k12; (try simp at q12); have l12 := k12.lt; clear hd; simp only [List.map_cons, List.map_nil, puts, Act.put, List.setIfInBounds_toArray, List.set_cons_zero, List.set_cons_succ, List.drop_succ_cons, List.drop_zero]; generalize g 12 = g12 at *; skip))
      exact ⟨rfl, ⟨_, rfl⟩, mV oneM, x20, x21, mV oneM, x23, x20, x8, rfl, findLow, (by first | omega | (simp; omega)), (fun _ => rfl), (fun _ => rfl), (fun q => by obtain ⟨g, e1, hg, hr⟩ := f1 (On.back (by decide) q); exact ⟨g, e1, hg, hr⟩), (fun q => by obtain ⟨gm, e1, hg, m0, m1⟩ := f2 (On.back (by decide) q); exact ⟨gm, e1, hg, (fun q => m0 (Of.fwd (by decide) q)), (fun q => m1 (On.back (by decide) q))⟩), (fun q => f5 (On.back (by decide) q)), (fun _ => rfl), (fun q => f7 (On.back (by decide) q)), (fun q => (f42 (On.back (by decide) q)).on), (fun q => (f52 (On.back (by decide) q)).on), (fun _ => p1.on), (fun q => (f75 (On.back (by decide) q)).on)⟩
    · obtain rfl : _ = o := Option.some.inj hi
      have p0 := pre_on (k := 0) (by kernel_rfl) hpre
      have p1 := pre_on (k := 1) (by kernel_rfl) hpre
      have p2 := pre_on (k := 2) (by kernel_rfl) hpre
      have p3 := pre_on (k := 3) (by kernel_rfl) hpre
      have p4 := pre_on (k := 4) (by kernel_rfl) hpre
      have p5 := pre_on (k := 5) (by kernel_rfl) hpre
      have p6 := pre_on (k := 6) (by kernel_rfl) hpre
      obtain rfl := f0 p0
      obtain rfl := f3 p3
      have q5 := f5 p5; subst q5
      have q6 := f6 p6; subst q6
      go_wp2_with (first | (refine wl_loadM ?_) | (refine wl_load ?_) | (refine wl_fill1 ?_) | (refine wl_fill2 ?_) | (refine wl_storeM ?_) | (refine wl_makeM ?_; intro gm W' hgm hl hT; have hs := hl.out.size; (try simp at hs)) | (refine wl_store (h1 := mC_one _) ?_) | (refine wl_sliceM ?_) | (refine wl_append (he := eltMp) (h1 := mC_one _) ?_; intro v' w' ho hg hb; have hs := hg.size; (try simp at hs); rw [mCs_snoc] at ho; (try obtain ⟨gz, cz, rfl, hzb, hzl, -⟩ := OwnK.maps ho (by simp) (by omega))) | (refine wl_mapLook true ?_ (hM := findGom) (hv := by (first | exact decide_eq_true (by assumption)))) | (refine wl_mapLook false ?_ (hM := findGom) (hv := by (first | exact decide_eq_false (by assumption)))) | (refine wl_store ?_) | (refine wl_build ?_) | (refine wl_slice ?_) | (refine wl_append ?_; intro v' w' ho hg hb; have hs := hg.size; (try simp at hs); (try rw [ptCs_end] at ho); (try rw [ints_end] at ho); (try simp only [Nat.zero_add, Nat.reduceAdd, List.nil_append, List.cons_append] at ho)) | ((with_reducible apply region_gd (id := 11)); refine region_QNA (id := 11) 8 [⟨7, 12, #[.int .i64 0, .int .i64 0, .int .i64 0, .int .i64 0, .int .i64 0, .int .i64 0, .int .i64 0, .int .i64 0, .int .i64 0], 47⟩] (.k (.k (.k (.k (.k (.k (.k (.d (.d .n))))))))) ⟨(fun o ho ρ W => by obtain rfl : _ = o := Option.some.inj ho; simp [execOp, go_sem]), trivial⟩ ?_; apply Exists.intro; refine ⟨fun G => ?_, fun g W hl hg hd => ?_⟩; (· ((repeat (first | go_big_quiet_skip | (go_big_quiet_want; first | (refine q_loadM ?_; simp only [Act.put, List.setIfInBounds_toArray, List.set_cons_zero, List.set_cons_succ]; go_big_quiet_on) | (refine q_load ?_; simp only [Act.put, List.setIfInBounds_toArray, List.set_cons_zero, List.set_cons_succ]; go_big_quiet_on) | (go_big_quiet_op; first | go_big_quiet_on)))); exact rfl)); obtain ⟨⟨q12, k12⟩, -⟩ := hg; have hs := hl.out.size; (try simp at hs); dsimp only at q12 k12; (try simp at q12); have l12 := k12.lt; clear hd; simp only [List.map_cons, List.map_nil, puts, Act.put, List.setIfInBounds_toArray, List.set_cons_zero, List.set_cons_succ, List.drop_succ_cons, List.drop_zero]; generalize g 12 = g12 at *; skip))
      exact ⟨rfl, ⟨_, rfl⟩, mV oneM, x7, x23, mV oneM, x23, x7, x23, rfl, findLow, (by first | omega | (simp; omega)), (fun _ => rfl), (fun _ => rfl), (fun q => by obtain ⟨g, e1, hg, hr⟩ := f1 (On.back (by decide) q); exact ⟨g, e1, hg, hr⟩), (fun q => by obtain ⟨gm, e1, hg, m0, m1⟩ := f2 (On.back (by decide) q); exact ⟨gm, e1, hg, (fun q => m0 (Of.fwd (by decide) q)), (fun q => m1 (On.back (by decide) q))⟩), (fun _ => rfl), (fun _ => rfl), (fun _ => rfl), (fun q => (f42 (On.back (by decide) q)).on), (fun q => (f52 (On.back (by decide) q)).on), (fun q => (f61 (On.back (by decide) q)).on), (fun _ => p5.on)⟩
    · simp at hi
  rintro S a W ⟨x19, x20, x21, x22, x23, x7, x8, rfl, hLw, hsz, f0, f3, f1, f2, f5, f6, f7, f42, f52, f61, f75⟩ hall
  replace hall : ∀ i, i < 8 → On S i := fun i hi => ⟨hall i hi⟩
  obtain ⟨g0, rfl, hg0, hr0⟩ := f1 (hall 1 (by decide))
  obtain ⟨gm, rfl, hgm, -, hM⟩ := f2 (hall 2 (by decide))
  replace hM := hM (hall 4 (by decide))
  obtain rfl := f0 (hall 0 (by decide))
  obtain rfl := f3 (hall 3 (by decide))
  obtain rfl := f5 (hall 5 (by decide))
  obtain rfl := f6 (hall 6 (by decide))
  obtain rfl := f7 (hall 7 (by decide))
  clear f0 f1 f2 f3 f5 f6 f7 f42 f52 f61 f75 hall
  subst hA
  simp only [puts, Act.put, List.setIfInBounds_toArray, List.set_cons_zero, List.set_cons_succ]
  rename_i Kq hKq
  refine hKq _ _ ?_
  clear hKq Kq
  have hO0 : OwnK W B 47 9 (.slice (some ⟨g0, 0, none⟩) 1 1) (seqA p ms 0).length (mCs (seqA p ms 0)) := OwnK.oneM hr0 hg0
  have hM0 : GoMapK W gm (seqA p ms 0) := hM
  have hgmw : w.heap.size ≤ gm := by omega
  clear hr0 hM hl hs
  have hml := hms.out.1
  go_wp2_with (first | (refine wl_loadM ?_) | (refine wl_load ?_) | (refine wl_fill1 ?_) | (refine wl_fill2 ?_) | (refine wl_storeM ?_) | (refine wl_makeM ?_; intro gm W' hgm hl hT; have hs := hl.out.size; (try simp at hs)) | (refine wl_store (h1 := mC_one _) ?_) | (refine wl_sliceM ?_) | (refine wl_append (he := eltMp) (h1 := mC_one _) ?_; intro v' w' ho hg hb; have hs := hg.size; (try simp at hs); rw [mCs_snoc] at ho; (try obtain ⟨gz, cz, rfl, hzb, hzl, -⟩ := OwnK.maps ho (by simp) (by omega))) | (refine wl_mapLook true ?_ (hM := findGom) (hv := by (first | exact decide_eq_true (by assumption)))) | (refine wl_mapLook false ?_ (hM := findGom) (hv := by (first | exact decide_eq_false (by assumption)))) | (refine wl_store ?_) | (refine wl_build ?_) | (refine wl_slice ?_) | (refine wl_append ?_; intro v' w' ho hg hb; have hs := hg.size; (try simp at hs); (try rw [ptCs_end] at ho); (try rw [ints_end] at ho); (try simp only [Nat.zero_add, Nat.reduceAdd, List.nil_append, List.cons_append] at ho)) | ((with_reducible apply region_gd (id := 11)); refine region_QNA (id := 11) 8 [⟨7, 12, #[.int .i64 0, .int .i64 0, .int .i64 0, .int .i64 0, .int .i64 0, .int .i64 0, .int .i64 0, .int .i64 0, .int .i64 0], 47⟩] (.k (.k (.k (.k (.k (.k (.k (.d (.d .n))))))))) ⟨(fun o ho ρ W => by obtain rfl : _ = o := Option.some.inj ho; simp [execOp, go_sem]), trivial⟩ ?_; apply Exists.intro; refine ⟨fun G => ?_, fun g W hl hg hd => ?_⟩; (· ((repeat (first | go_big_quiet_skip | (go_big_quiet_want; first | (refine q_loadM ?_; simp only [Act.put, List.setIfInBounds_toArray, List.set_cons_zero, List.set_cons_succ]; go_big_quiet_on) | (refine q_load ?_; simp only [Act.put, List.setIfInBounds_toArray, List.set_cons_zero, List.set_cons_succ]; go_big_quiet_on) | (go_big_quiet_op; first | go_big_quiet_on)))); exact rfl)); obtain ⟨⟨q12, k12⟩, -⟩ := hg; have hs := hl.out.size; (try simp at hs); dsimp only at q12 k12; (try simp at q12); have l12 := k12.lt; clear hd; simp only [List.map_cons, List.map_nil, puts, Act.put, List.setIfInBounds_toArray, List.set_cons_zero, List.set_cons_succ, List.drop_succ_cons, List.drop_zero]; generalize g 12 = g12 at *; skip))
  go_loopw [7, 9] (fun v iv wr => ∃ i : Nat, GoodA p ms i ∧ i ≤ (seqA p ms i).length ∧ iv = .int .i64 (i : Int) ∧ OwnK wr B 47 9 v (seqA p ms i).length (mCs (seqA p ms i)) ∧ GoMapK wr gm (seqA p ms i) ∧ LowK w wr ∧ B ≤ wr.heap.size) (fun _ iv wr => 201 - (intOf iv).toNat)
  case atStart => exact ⟨0, fun i hi => absurd hi (Nat.not_lt_zero _), Nat.zero_le _, rfl, hO0, hM0, hLw, hsz⟩
  case round =>
    clear hO0 hM0 hLw hsz
    obtain ⟨i, hG, hi, rfl, hO, hM, hV, hsz⟩ := hrel
    have h200 := good_len hG (Nat.le_refl i)
    have hall := seqA_all hp ms i
    have hpos := seqA_pos p ms i
    obtain ⟨A, hA⟩ : ∃ A, seqA p ms i = A := ⟨_, rfl⟩
    have HAA := Lib.hid hA
    rw [hA] at hO hM h200 hi hall hpos
    clear hA
    obtain ⟨vo, cpo, rfl, hgo, hgo2, hmo⟩ := OwnK.maps hO rfl hpos
    clear hmo
    by_cases hlt : i < A.length
    · obtain ⟨x, hx⟩ : ∃ x, A.getD i m0 = x := ⟨_, rfl⟩
      have hxi : InM x := by rw [← hx]; exact hall _ (by rw [List.getD_eq_getElem?_getD, List.getElem?_eq_getElem hlt]; exact List.getElem_mem _)
      have HX := Lib.hid hx
      clear hx
      go_wp2_with (first | (refine wl_loadM ?_) | (refine wl_load ?_) | (refine wl_fill1 ?_) | (refine wl_fill2 ?_) | (refine wl_storeM ?_) | (refine wl_makeM ?_; intro gm W' hgm hl hT; have hs := hl.out.size; (try simp at hs)) | (refine wl_store (h1 := mC_one _) ?_) | (refine wl_sliceM ?_) | (refine wl_append (he := eltMp) (h1 := mC_one _) ?_; intro v' w' ho hg hb; have hs := hg.size; (try simp at hs); rw [mCs_snoc] at ho; (try obtain ⟨gz, cz, rfl, hzb, hzl, -⟩ := OwnK.maps ho (by simp) (by omega))) | (refine wl_mapLook true ?_ (hM := findGom) (hv := by (first | exact decide_eq_true (by assumption)))) | (refine wl_mapLook false ?_ (hM := findGom) (hv := by (first | exact decide_eq_false (by assumption)))) | (refine wl_store ?_) | (refine wl_build ?_) | (refine wl_slice ?_) | (refine wl_append ?_; intro v' w' ho hg hb; have hs := hg.size; (try simp at hs); (try rw [ptCs_end] at ho); (try rw [ints_end] at ho); (try simp only [Nat.zero_add, Nat.reduceAdd, List.nil_append, List.cons_append] at ho)) | ((with_reducible apply region_gd (id := 11)); refine region_QNA (id := 11) 8 [⟨7, 12, #[.int .i64 0, .int .i64 0, .int .i64 0, .int .i64 0, .int .i64 0, .int .i64 0, .int .i64 0, .int .i64 0, .int .i64 0], 47⟩] (.k (.k (.k (.k (.k (.k (.k (.d (.d .n))))))))) ⟨(fun o ho ρ W => by obtain rfl : _ = o := Option.some.inj ho; simp [execOp, go_sem]), trivial⟩ ?_; apply Exists.intro; refine ⟨fun G => ?_, fun g W hl hg hd => ?_⟩; (· ((repeat (first | go_big_quiet_skip | (go_big_quiet_want; first | (refine q_loadM ?_; simp only [Act.put, List.setIfInBounds_toArray, List.set_cons_zero, List.set_cons_succ]; go_big_quiet_on) | (refine q_load ?_; simp only [Act.put, List.setIfInBounds_toArray, List.set_cons_zero, List.set_cons_succ]; go_big_quiet_on) | (go_big_quiet_op; first | go_big_quiet_on)))); exact rfl)); obtain ⟨⟨q12, k12⟩, -⟩ := hg; have hs := hl.out.size; (try simp at hs); dsimp only at q12 k12; (try simp at q12); have l12 := k12.lt; clear hd; simp only [List.map_cons, List.map_nil, puts, Act.put, List.setIfInBounds_toArray, List.set_cons_zero, List.set_cons_succ, List.drop_succ_cons, List.drop_zero]; generalize g 12 = g12 at *; skip))
      have hAl : 0 < A.length := by omega
      go_loopw [7, 32] (fun v kv wi => ∃ k : Nat, k ≤ n ∧ kv = .int .i64 (k : Int) ∧ OwnK wi B 47 9 v (innA p ms A x k).length (mCs (innA p ms A x k)) ∧ GoMapK wi gm (innA p ms A x k) ∧ LowK w wi ∧ B ≤ wi.heap.size) (fun _ kv wi => n - (intOf kv).toNat)
      case atStart => exact ⟨0, Nat.zero_le _, rfl, hO, hM, findLow, (by first | omega | (simp; omega))⟩
      case round =>
        clear hO hM hV hsz hall
        obtain ⟨k, hk, rfl, hO, hM, hV, hsz⟩ := hrel
        have hle := innA_len p ms A x k
        have hpre := (innA_pre p ms A x k).length_le
        by_cases hlk : k < n
        · obtain ⟨y, hy⟩ : ∃ y, ms.getD k m0 = y := ⟨_, rfl⟩
          have hyi : InM y := by rw [← hy]; exact hin _ (by rw [List.getD_eq_getElem?_getD, List.getElem?_eq_getElem (by omega)]; exact List.getElem_mem _)
          obtain ⟨t, ht⟩ : ∃ t, timesM p x y = t := ⟨_, rfl⟩
          have HT := Lib.hid ht
          have HS := Lib.hid (innA_succ (A := A) (x := x) (k := k) hy ht)
          have hgx := innA_at (p := p) (ms := ms) (x := x) hlt k
          obtain ⟨A2, hA2⟩ : ∃ A2, innA p ms A x k = A2 := ⟨_, rfl⟩
          rw [hA2] at hO hM hle hpre HS hgx
          have hgx := hgx.trans HX.out
          have hA2l : i < A2.length := by omega
          obtain ⟨vg, cpk, rfl, hg, hg2, hm⟩ := OwnK.maps hO rfl (by omega)
          obtain ⟨gb, off, rfl, hma⟩ := hms.out.2 (by omega)
          have r1 : RangeK wr gb (off + k * 9) (mC y) := by rw [← hy]; exact (hma.at_ hlk).viaLow hV
          have r2 : RangeK wr vg (i * 9) (mC x) := by have := hm.at_ hA2l; rw [Nat.zero_add, hgx] at this; exact this
          have hgml := hM.lt
          clear ht hA2 hy hma hm hgx
          by_cases hnin : t ∈ A2
          · have E1 : Hid (innA p ms A x (k + 1) = A2) := Lib.hid (by rw [HS.out, if_pos hnin])
            go_wp2_with (first | (refine wl_loadM ?_) | (refine wl_load ?_) | (refine wl_fill1 ?_) | (refine wl_fill2 ?_) | (refine wl_storeM ?_) | (refine wl_makeM ?_; intro gm W' hgm hl hT; have hs := hl.out.size; (try simp at hs)) | (refine wl_store (h1 := mC_one _) ?_) | (refine wl_sliceM ?_) | (refine wl_append (he := eltMp) (h1 := mC_one _) ?_; intro v' w' ho hg hb; have hs := hg.size; (try simp at hs); rw [mCs_snoc] at ho; (try obtain ⟨gz, cz, rfl, hzb, hzl, -⟩ := OwnK.maps ho (by simp) (by omega))) | (refine wl_mapLook true ?_ (hM := findGom) (hv := by (first | exact decide_eq_true (by assumption)))) | (refine wl_mapLook false ?_ (hM := findGom) (hv := by (first | exact decide_eq_false (by assumption)))) | (refine wl_store ?_) | (refine wl_build ?_) | (refine wl_slice ?_) | (refine wl_append ?_; intro v' w' ho hg hb; have hs := hg.size; (try simp at hs); (try rw [ptCs_end] at ho); (try rw [ints_end] at ho); (try simp only [Nat.zero_add, Nat.reduceAdd, List.nil_append, List.cons_append] at ho)) | (go_at_call 23; (with_reducible refine (times_M _ HT.out hp hxi hyi).mono ?_); rintro e w' ⟨rfl, hb⟩; have hl := Link.mk hb; have hs := hb.size; (try simp at hs); clear hb) | ((with_reducible apply region_gd (id := 11)); refine region_QNA (id := 11) 8 [⟨7, 12, #[.int .i64 0, .int .i64 0, .int .i64 0, .int .i64 0, .int .i64 0, .int .i64 0, .int .i64 0, .int .i64 0, .int .i64 0], 47⟩] (.k (.k (.k (.k (.k (.k (.k (.d (.d .n))))))))) ⟨(fun o ho ρ W => by obtain rfl : _ = o := Option.some.inj ho; simp [execOp, go_sem]), trivial⟩ ?_; apply Exists.intro; refine ⟨fun G => ?_, fun g W hl hg hd => ?_⟩; (· ((repeat (first | go_big_quiet_skip | (go_big_quiet_want; first | (refine q_loadM ?_; simp only [Act.put, List.setIfInBounds_toArray, List.set_cons_zero, List.set_cons_succ]; go_big_quiet_on) | (refine q_load ?_; simp only [Act.put, List.setIfInBounds_toArray, List.set_cons_zero, List.set_cons_succ]; go_big_quiet_on) | (go_big_quiet_op; first | go_big_quiet_on | (apply Exists.intro; refine ⟨fun g => ?_, ?_⟩; (· (have hl := growL g; first | (go_at_call 23; with_reducible exact grow_ret (times_M _ HT.out hp hxi hyi)))); go_big_quiet_on))))); exact rfl)); obtain ⟨⟨q12, k12⟩, -⟩ := hg; have hs := hl.out.size; (try simp at hs); dsimp only at q12 k12; (try simp at q12); have l12 := k12.lt; clear hd; simp only [List.map_cons, List.map_nil, puts, Act.put, List.setIfInBounds_toArray, List.set_cons_zero, List.set_cons_succ, List.drop_succ_cons, List.drop_zero]; generalize g 12 = g12 at *; skip))
            go_roundw
            case rel => exact ⟨k + 1, by omega, by go_num, by rw [E1.out]; exact findOwn, by rw [E1.out]; exact findGom, findLow, (by first | omega | (simp; omega))⟩
            case measure => (simp [intOf]; try omega)
          · have E1 : Hid (innA p ms A x (k + 1) = A2 ++ [t]) := Lib.hid (by rw [HS.out, if_neg hnin])
            go_wp2_with (first | (refine wl_loadM ?_) | (refine wl_load ?_) | (refine wl_fill1 ?_) | (refine wl_fill2 ?_) | (refine wl_storeM ?_) | (refine wl_makeM ?_; intro gm W' hgm hl hT; have hs := hl.out.size; (try simp at hs)) | (refine wl_store (h1 := mC_one _) ?_) | (refine wl_sliceM ?_) | (refine wl_append (he := eltMp) (h1 := mC_one _) ?_; intro v' w' ho hg hb; have hs := hg.size; (try simp at hs); rw [mCs_snoc] at ho; (try obtain ⟨gz, cz, rfl, hzb, hzl, -⟩ := OwnK.maps ho (by simp) (by omega))) | (refine wl_mapLook true ?_ (hM := findGom) (hv := by (first | exact decide_eq_true (by assumption)))) | (refine wl_mapLook false ?_ (hM := findGom) (hv := by (first | exact decide_eq_false (by assumption)))) | (refine wl_store ?_) | (refine wl_build ?_) | (refine wl_slice ?_) | (refine wl_append ?_; intro v' w' ho hg hb; have hs := hg.size; (try simp at hs); (try rw [ptCs_end] at ho); (try rw [ints_end] at ho); (try simp only [Nat.zero_add, Nat.reduceAdd, List.nil_append, List.cons_append] at ho)) | (go_at_call 23; (with_reducible refine (times_M _ HT.out hp hxi hyi).mono ?_); rintro e w' ⟨rfl, hb⟩; have hl := Link.mk hb; have hs := hb.size; (try simp at hs); clear hb) | ((with_reducible apply region_gd (id := 11)); refine region_QNA (id := 11) 8 [⟨7, 12, #[.int .i64 0, .int .i64 0, .int .i64 0, .int .i64 0, .int .i64 0, .int .i64 0, .int .i64 0, .int .i64 0, .int .i64 0], 47⟩] (.k (.k (.k (.k (.k (.k (.k (.d (.d .n))))))))) ⟨(fun o ho ρ W => by obtain rfl : _ = o := Option.some.inj ho; simp [execOp, go_sem]), trivial⟩ ?_; apply Exists.intro; refine ⟨fun G => ?_, fun g W hl hg hd => ?_⟩; (· ((repeat (first | go_big_quiet_skip | (go_big_quiet_want; first | (refine q_loadM ?_; simp only [Act.put, List.setIfInBounds_toArray, List.set_cons_zero, List.set_cons_succ]; go_big_quiet_on) | (refine q_load ?_; simp only [Act.put, List.setIfInBounds_toArray, List.set_cons_zero, List.set_cons_succ]; go_big_quiet_on) | (go_big_quiet_op; first | go_big_quiet_on | (apply Exists.intro; refine ⟨fun g => ?_, ?_⟩; (· (have hl := growL g; first | (go_at_call 23; with_reducible exact grow_ret (times_M _ HT.out hp hxi hyi)))); go_big_quiet_on))))); exact rfl)); obtain ⟨⟨q12, k12⟩, -⟩ := hg; have hs := hl.out.size; (try simp at hs); dsimp only at q12 k12; (try simp at q12); have l12 := k12.lt; clear hd; simp only [List.map_cons, List.map_nil, puts, Act.put, List.setIfInBounds_toArray, List.set_cons_zero, List.set_cons_succ, List.drop_succ_cons, List.drop_zero]; generalize g 12 = g12 at *; skip))
            refine with_act (fun a0 hA => ?_)
            have hoff : Off (.slice (some ⟨vg, 0, none⟩) A2.length cpk) g12 := findOff
            have hbx0 : RowK (W.setRow g12 (mC t)) g12 (mC t) 47 := findRow
            have hO1 : OwnK (W.setRow g12 (mC t)) B 47 9 (.slice (some ⟨vg, 0, none⟩) A2.length cpk) A2.length (mCs A2) := findOwn
            have hM1 : GoMapK (W.setRow g12 (mC t)) gm A2 := findGom
            have hV1 : LowK w (W.setRow g12 (mC t)) := findLow
            have hsz1 : B ≤ (W.setRow g12 (mC t)).heap.size := by first | omega | (simp; omega)
            clear hO hM hV r1 r2 HC
            generalize W.setRow g12 (mC t) = W4 at *
            obtain ⟨v7, hv7⟩ : ∃ v7, (Value.slice (some ⟨vg, 0, none⟩) A2.length cpk) = v7 := ⟨_, rfl⟩
            rw [hv7] at hO1 hoff hA
            have hA6 : A2.length ≤ 209 := by omega
            obtain ⟨N, hN⟩ : ∃ N, A2.length = N := ⟨_, rfl⟩
            rw [hN] at hO1 hA6
            have HN := Lib.hid hN
            clear hN
            refine region_inv (id := 13) (fun S a W => ∃ x47 x48 x49 x50 x51 x52 x7, a = puts a0 [(47, x47), (48, x48), (49, x49), (50, x50), (51, x51), (52, x52), (7, x7)] ∧ LowK w W ∧ B ≤ W.heap.size ∧ RowK W g12 (mC t) 47 ∧ (On S 0 → x47 = .map (some gm)) ∧ (On S 1 → x48 = mV t) ∧ (On S 2 → x49 = v7) ∧ (On S 3 → x50 = mV t) ∧ (On S 4 → ∃ g, x51 = .slice (some ⟨g, 0, none⟩) 1 1 ∧ (Of S 5 → RowK W g (mC t) 47)) ∧ (On S 5 → OwnK W B 47 9 x52 (N + 1) (mCs (A2 ++ [t]))) ∧ (Of S 5 → OwnK W B 47 9 v7 N (mCs A2)) ∧ (On S 6 → x7 = x52) ∧ (Of S 6 → x7 = v7) ∧ (Of S 7 → GoMapK W gm A2) ∧ (On S 7 → GoMapK W gm (A2 ++ [t])) ∧ (On S 6 → On S 2) ∧ (On S 6 → On S 5)) (by kernel_rfl) (by kernel_rfl) ?_ ?_ ?_
            · exact ⟨a0.tmps.getD 47 undef, a0.tmps.getD 48 undef, a0.tmps.getD 49 undef, a0.tmps.getD 50 undef, a0.tmps.getD 51 undef, a0.tmps.getD 52 undef, v7, (by rw [hA]; rfl), (LowK.drew hV1), hsz1, hbx0.drew, (fun q => q.none.elim), (fun q => q.none.elim), (fun q => q.none.elim), (fun q => q.none.elim), (fun q => q.none.elim), (fun q => q.none.elim), (fun _ => hO1.drew), (fun q => q.none.elim), (fun _ => rfl), (fun _ => hM1.drew), (fun q => q.none.elim), (fun q => q.none.elim), (fun q => q.none.elim)⟩
            · clear hO1 hM1 hV1 hbx0 hsz1
              rintro S a W i o ⟨x47, x48, x49, x50, x51, x52, x7, rfl, hLw, hsz2, hbx, f0, f1, f2, f3, f4, f5, e5, f6, e6, m0, m1, f62, f65⟩ hS hi hno hpre
              have Hno : Of S i := ⟨hno⟩
              subst hA
              simp only [puts, Act.put, List.setIfInBounds_toArray, List.set_cons_zero, List.set_cons_succ]
              rcases i with _ | _ | _ | _ | _ | _ | _ | _ | i
              · obtain rfl : _ = o := Option.some.inj hi
                go_wp2_with (first | (refine wl_loadM ?_) | (refine wl_load ?_) | (refine wl_fill1 ?_) | (refine wl_fill2 ?_) | (refine wl_storeM ?_) | (refine wl_makeM ?_; intro gm W' hgm hl hT; have hs := hl.out.size; (try simp at hs)) | (refine wl_store (h1 := mC_one _) ?_) | (refine wl_sliceM ?_) | (refine wl_append (he := eltMp) (h1 := mC_one _) ?_; intro v' w' ho hg hb; have hs := hg.size; (try simp at hs); rw [mCs_snoc] at ho; (try obtain ⟨gz, cz, rfl, hzb, hzl, -⟩ := OwnK.maps ho (by simp) (by omega))) | (refine wl_mapLook true ?_ (hM := findGom) (hv := by (first | exact decide_eq_true (by assumption)))) | (refine wl_mapLook false ?_ (hM := findGom) (hv := by (first | exact decide_eq_false (by assumption)))) | (refine wl_store ?_) | (refine wl_build ?_) | (refine wl_slice ?_) | (refine wl_append ?_; intro v' w' ho hg hb; have hs := hg.size; (try simp at hs); (try rw [ptCs_end] at ho); (try rw [ints_end] at ho); (try simp only [Nat.zero_add, Nat.reduceAdd, List.nil_append, List.cons_append] at ho)) | ((with_reducible apply region_gd (id := 11)); refine region_QNA (id := 11) 8 [⟨7, 12, #[.int .i64 0, .int .i64 0, .int .i64 0, .int .i64 0, .int .i64 0, .int .i64 0, .int .i64 0, .int .i64 0, .int .i64 0], 47⟩] (.k (.k (.k (.k (.k (.k (.k (.d (.d .n))))))))) ⟨(fun o ho ρ W => by obtain rfl : _ = o := Option.some.inj ho; simp [execOp, go_sem]), trivial⟩ ?_; apply Exists.intro; refine ⟨fun G => ?_, fun g W hl hg hd => ?_⟩; (· ((repeat (first | go_big_quiet_skip | (go_big_quiet_want; first | (refine q_loadM ?_; simp only [Act.put, List.setIfInBounds_toArray, List.set_cons_zero, List.set_cons_succ]; go_big_quiet_on) | (refine q_load ?_; simp only [Act.put, List.setIfInBounds_toArray, List.set_cons_zero, List.set_cons_succ]; go_big_quiet_on) | (go_big_quiet_op; first | go_big_quiet_on)))); exact rfl)); obtain ⟨⟨q12, k12⟩, -⟩ := hg; have hs := hl.out.size; (try simp at hs); dsimp only at q12 k12; (try simp at q12); have l12 := k12.lt; clear hd; simp only [List.map_cons, List.map_nil, puts, Act.put, List.setIfInBounds_toArray, List.set_cons_zero, List.set_cons_succ, List.drop_succ_cons, List.drop_zero]; generalize g 12 = g12 at *; skip))
                exact ⟨rfl, ⟨_, rfl⟩, _, x48, x49, x50, x51, x52, x7, rfl, hLw, (by first | omega | (simp; omega)), hbx, (fun _ => rfl), (fun q => f1 (On.back (by decide) q)), (fun q => f2 (On.back (by decide) q)), (fun q => f3 (On.back (by decide) q)), (fun q => by obtain ⟨g, e1, hr⟩ := f4 (On.back (by decide) q); exact ⟨g, e1, fun q2 => hr (Of.fwd (by decide) q2)⟩), (fun q => f5 (On.back (by decide) q)), (fun q => e5 (Of.fwd (by decide) q)), (fun q => f6 (On.back (by decide) q)), (fun q => e6 (Of.fwd (by decide) q)), (fun q => m0 (Of.fwd (by decide) q)), (fun q => m1 (On.back (by decide) q)), (fun q => (f62 (On.back (by decide) q)).on), (fun q => (f65 (On.back (by decide) q)).on)⟩
              · obtain rfl : _ = o := Option.some.inj hi
                go_wp2_with (first | (refine wl_loadM ?_) | (refine wl_load ?_) | (refine wl_fill1 ?_) | (refine wl_fill2 ?_) | (refine wl_storeM ?_) | (refine wl_makeM ?_; intro gm W' hgm hl hT; have hs := hl.out.size; (try simp at hs)) | (refine wl_store (h1 := mC_one _) ?_) | (refine wl_sliceM ?_) | (refine wl_append (he := eltMp) (h1 := mC_one _) ?_; intro v' w' ho hg hb; have hs := hg.size; (try simp at hs); rw [mCs_snoc] at ho; (try obtain ⟨gz, cz, rfl, hzb, hzl, -⟩ := OwnK.maps ho (by simp) (by omega))) | (refine wl_mapLook true ?_ (hM := findGom) (hv := by (first | exact decide_eq_true (by assumption)))) | (refine wl_mapLook false ?_ (hM := findGom) (hv := by (first | exact decide_eq_false (by assumption)))) | (refine wl_store ?_) | (refine wl_build ?_) | (refine wl_slice ?_) | (refine wl_append ?_; intro v' w' ho hg hb; have hs := hg.size; (try simp at hs); (try rw [ptCs_end] at ho); (try rw [ints_end] at ho); (try simp only [Nat.zero_add, Nat.reduceAdd, List.nil_append, List.cons_append] at ho)) | ((with_reducible apply region_gd (id := 11)); refine region_QNA (id := 11) 8 [⟨7, 12, #[.int .i64 0, .int .i64 0, .int .i64 0, .int .i64 0, .int .i64 0, .int .i64 0, .int .i64 0, .int .i64 0, .int .i64 0], 47⟩] (.k (.k (.k (.k (.k (.k (.k (.d (.d .n))))))))) ⟨(fun o ho ρ W => by obtain rfl : _ = o := Option.some.inj ho; simp [execOp, go_sem]), trivial⟩ ?_; apply Exists.intro; refine ⟨fun G => ?_, fun g W hl hg hd => ?_⟩; (· ((repeat (first | go_big_quiet_skip | (go_big_quiet_want; first | (refine q_loadM ?_; simp only [Act.put, List.setIfInBounds_toArray, List.set_cons_zero, List.set_cons_succ]; go_big_quiet_on) | (refine q_load ?_; simp only [Act.put, List.setIfInBounds_toArray, List.set_cons_zero, List.set_cons_succ]; go_big_quiet_on) | (go_big_quiet_op; first | go_big_quiet_on)))); exact rfl)); obtain ⟨⟨q12, k12⟩, -⟩ := hg; have hs := hl.out.size; (try simp at hs); dsimp only at q12 k12; (try simp at q12); have l12 := k12.lt; clear hd; simp only [List.map_cons, List.map_nil, puts, Act.put, List.setIfInBounds_toArray, List.set_cons_zero, List.set_cons_succ, List.drop_succ_cons, List.drop_zero]; generalize g 12 = g12 at *; skip))
                exact ⟨rfl, ⟨_, rfl⟩, x47, _, x49, x50, x51, x52, x7, rfl, hLw, (by first | omega | (simp; omega)), hbx, (fun q => f0 (On.back (by decide) q)), (fun _ => rfl), (fun q => f2 (On.back (by decide) q)), (fun q => f3 (On.back (by decide) q)), (fun q => by obtain ⟨g, e1, hr⟩ := f4 (On.back (by decide) q); exact ⟨g, e1, fun q2 => hr (Of.fwd (by decide) q2)⟩), (fun q => f5 (On.back (by decide) q)), (fun q => e5 (Of.fwd (by decide) q)), (fun q => f6 (On.back (by decide) q)), (fun q => e6 (Of.fwd (by decide) q)), (fun q => m0 (Of.fwd (by decide) q)), (fun q => m1 (On.back (by decide) q)), (fun q => (f62 (On.back (by decide) q)).on), (fun q => (f65 (On.back (by decide) q)).on)⟩
              · obtain rfl : _ = o := Option.some.inj hi
                have hno6 : Of S 6 := by rcases Of.or (S := S) 6 with q | q; (· exact q); (· exact ((f62 q).of Hno).elim)
                have q6 := (e6 hno6).symm; subst q6
                go_wp2_with (first | (refine wl_loadM ?_) | (refine wl_load ?_) | (refine wl_fill1 ?_) | (refine wl_fill2 ?_) | (refine wl_storeM ?_) | (refine wl_makeM ?_; intro gm W' hgm hl hT; have hs := hl.out.size; (try simp at hs)) | (refine wl_store (h1 := mC_one _) ?_) | (refine wl_sliceM ?_) | (refine wl_append (he := eltMp) (h1 := mC_one _) ?_; intro v' w' ho hg hb; have hs := hg.size; (try simp at hs); rw [mCs_snoc] at ho; (try obtain ⟨gz, cz, rfl, hzb, hzl, -⟩ := OwnK.maps ho (by simp) (by omega))) | (refine wl_mapLook true ?_ (hM := findGom) (hv := by (first | exact decide_eq_true (by assumption)))) | (refine wl_mapLook false ?_ (hM := findGom) (hv := by (first | exact decide_eq_false (by assumption)))) | (refine wl_store ?_) | (refine wl_build ?_) | (refine wl_slice ?_) | (refine wl_append ?_; intro v' w' ho hg hb; have hs := hg.size; (try simp at hs); (try rw [ptCs_end] at ho); (try rw [ints_end] at ho); (try simp only [Nat.zero_add, Nat.reduceAdd, List.nil_append, List.cons_append] at ho)) | ((with_reducible apply region_gd (id := 11)); refine region_QNA (id := 11) 8 [⟨7, 12, #[.int .i64 0, .int .i64 0, .int .i64 0, .int .i64 0, .int .i64 0, .int .i64 0, .int .i64 0, .int .i64 0, .int .i64 0], 47⟩] (.k (.k (.k (.k (.k (.k (.k (.d (.d .n))))))))) ⟨(fun o ho ρ W => by obtain rfl : _ = o := Option.some.inj ho; simp [execOp, go_sem]), trivial⟩ ?_; apply Exists.intro; refine ⟨fun G => ?_, fun g W hl hg hd => ?_⟩; (· ((repeat (first | go_big_quiet_skip | (go_big_quiet_want; first | (refine q_loadM ?_; simp only [Act.put, List.setIfInBounds_toArray, List.set_cons_zero, List.set_cons_succ]; go_big_quiet_on) | (refine q_load ?_; simp only [Act.put, List.setIfInBounds_toArray, List.set_cons_zero, List.set_cons_succ]; go_big_quiet_on) | (go_big_quiet_op; first | go_big_quiet_on)))); exact rfl)); obtain ⟨⟨q12, k12⟩, -⟩ := hg; have hs := hl.out.size; (try simp at hs); dsimp only at q12 k12; (try simp at q12); have l12 := k12.lt; clear hd; simp only [List.map_cons, List.map_nil, puts, Act.put, List.setIfInBounds_toArray, List.set_cons_zero, List.set_cons_succ, List.drop_succ_cons, List.drop_zero]; generalize g 12 = g12 at *; skip))
                exact ⟨rfl, ⟨_, rfl⟩, x47, x48, _, x50, x51, x52, v7, rfl, hLw, (by first | omega | (simp; omega)), hbx, (fun q => f0 (On.back (by decide) q)), (fun q => f1 (On.back (by decide) q)), (fun _ => rfl), (fun q => f3 (On.back (by decide) q)), (fun q => by obtain ⟨g, e1, hr⟩ := f4 (On.back (by decide) q); exact ⟨g, e1, fun q2 => hr (Of.fwd (by decide) q2)⟩), (fun q => f5 (On.back (by decide) q)), (fun q => e5 (Of.fwd (by decide) q)), (fun q => f6 (On.back (by decide) q)), (fun _ => rfl), (fun q => m0 (Of.fwd (by decide) q)), (fun q => m1 (On.back (by decide) q)), (fun q => (f62 (On.back (by decide) q)).on), (fun q => (f65 (On.back (by decide) q)).on)⟩
              · obtain rfl : _ = o := Option.some.inj hi
                go_wp2_with (first | (refine wl_loadM ?_) | (refine wl_load ?_) | (refine wl_fill1 ?_) | (refine wl_fill2 ?_) | (refine wl_storeM ?_) | (refine wl_makeM ?_; intro gm W' hgm hl hT; have hs := hl.out.size; (try simp at hs)) | (refine wl_store (h1 := mC_one _) ?_) | (refine wl_sliceM ?_) | (refine wl_append (he := eltMp) (h1 := mC_one _) ?_; intro v' w' ho hg hb; have hs := hg.size; (try simp at hs); rw [mCs_snoc] at ho; (try obtain ⟨gz, cz, rfl, hzb, hzl, -⟩ := OwnK.maps ho (by simp) (by omega))) | (refine wl_mapLook true ?_ (hM := findGom) (hv := by (first | exact decide_eq_true (by assumption)))) | (refine wl_mapLook false ?_ (hM := findGom) (hv := by (first | exact decide_eq_false (by assumption)))) | (refine wl_store ?_) | (refine wl_build ?_) | (refine wl_slice ?_) | (refine wl_append ?_; intro v' w' ho hg hb; have hs := hg.size; (try simp at hs); (try rw [ptCs_end] at ho); (try rw [ints_end] at ho); (try simp only [Nat.zero_add, Nat.reduceAdd, List.nil_append, List.cons_append] at ho)) | ((with_reducible apply region_gd (id := 11)); refine region_QNA (id := 11) 8 [⟨7, 12, #[.int .i64 0, .int .i64 0, .int .i64 0, .int .i64 0, .int .i64 0, .int .i64 0, .int .i64 0, .int .i64 0, .int .i64 0], 47⟩] (.k (.k (.k (.k (.k (.k (.k (.d (.d .n))))))))) ⟨(fun o ho ρ W => by obtain rfl : _ = o := Option.some.inj ho; simp [execOp, go_sem]), trivial⟩ ?_; apply Exists.intro; refine ⟨fun G => ?_, fun g W hl hg hd => ?_⟩; (· ((repeat (first | go_big_quiet_skip | (go_big_quiet_want; first | (refine q_loadM ?_; simp only [Act.put, List.setIfInBounds_toArray, List.set_cons_zero, List.set_cons_succ]; go_big_quiet_on) | (refine q_load ?_; simp only [Act.put, List.setIfInBounds_toArray, List.set_cons_zero, List.set_cons_succ]; go_big_quiet_on) | (go_big_quiet_op; first | go_big_quiet_on)))); exact rfl)); obtain ⟨⟨q12, k12⟩, -⟩ := hg; have hs := hl.out.size; (try simp at hs); dsimp only at q12 k12; (try simp at q12); have l12 := k12.lt; clear hd; simp only [List.map_cons, List.map_nil, puts, Act.put, List.setIfInBounds_toArray, List.set_cons_zero, List.set_cons_succ, List.drop_succ_cons, List.drop_zero]; generalize g 12 = g12 at *; skip))
                exact ⟨rfl, ⟨_, rfl⟩, x47, x48, x49, _, x51, x52, x7, rfl, hLw, (by first | omega | (simp; omega)), hbx, (fun q => f0 (On.back (by decide) q)), (fun q => f1 (On.back (by decide) q)), (fun q => f2 (On.back (by decide) q)), (fun _ => rfl), (fun q => by obtain ⟨g, e1, hr⟩ := f4 (On.back (by decide) q); exact ⟨g, e1, fun q2 => hr (Of.fwd (by decide) q2)⟩), (fun q => f5 (On.back (by decide) q)), (fun q => e5 (Of.fwd (by decide) q)), (fun q => f6 (On.back (by decide) q)), (fun q => e6 (Of.fwd (by decide) q)), (fun q => m0 (Of.fwd (by decide) q)), (fun q => m1 (On.back (by decide) q)), (fun q => (f62 (On.back (by decide) q)).on), (fun q => (f65 (On.back (by decide) q)).on)⟩
              · obtain rfl : _ = o := Option.some.inj hi
                have p3 := pre_on (k := 3) (by kernel_rfl) hpre
                obtain rfl := f3 p3
                go_wp2_with (refine wl_sliceM ?_)
                exact ⟨rfl, ⟨_, rfl⟩, x47, x48, x49, mV t, _, x52, x7, rfl, findLow, (by first | omega | (simp; omega)), hbx.alloc _, (fun q => f0 (On.back (by decide) q)), (fun q => f1 (On.back (by decide) q)), (fun q => f2 (On.back (by decide) q)), (fun _ => rfl), (fun _ => ⟨_, rfl, fun _ => findRow⟩), (fun q => OwnK.alloc (f5 (On.back (by decide) q)) _), (fun q => OwnK.alloc (e5 (Of.fwd (by decide) q)) _), (fun q => f6 (On.back (by decide) q)), (fun q => e6 (Of.fwd (by decide) q)), (fun q => GoMapK.alloc (m0 (Of.fwd (by decide) q)) _), (fun q => GoMapK.alloc (m1 (On.back (by decide) q)) _), (fun q => (f62 (On.back (by decide) q)).on), (fun q => (f65 (On.back (by decide) q)).on)⟩
              · obtain rfl : _ = o := Option.some.inj hi
                have p2 := pre_on (k := 2) (by kernel_rfl) hpre
                have p4 := pre_on (k := 4) (by kernel_rfl) hpre
                have q2 := (f2 p2).symm
                subst q2
                obtain ⟨g, rfl, hr⟩ := f4 p4
                have hr := hr Hno
                have hO := e5 Hno
                go_wp2_with ((refine wl_append (v := v7) (he := eltMp) (hs := by exact rfl) (h1 := mC_one _) ?_); intro v' w' ho hg hb2; have hs2 := hg.size; rw [mCs_snoc] at ho)
                exact ⟨rfl, ⟨_, rfl⟩, x47, x48, v7, x50, (.slice (some ⟨g, 0, none⟩) 1 1), v', x7, rfl, (LowK.grewB hg hO hBw hLw), (by first | omega | (simp; omega)), hbx.grew hg hoff, (fun q => f0 (On.back (by decide) q)), (fun q => f1 (On.back (by decide) q)), (fun _ => rfl), (fun q => f3 (On.back (by decide) q)), (fun _ => ⟨g, rfl, fun q => (Of.no hS (by decide) q).elim⟩), (fun _ => ho), (fun q => (Of.no hS (by decide) q).elim), (fun q => ((f65 (On.back (by decide) q)).of Hno).elim), (fun q => e6 (Of.fwd (by decide) q)), (fun q => GoMapK.grew hg hO (m0 (Of.fwd (by decide) q))), (fun q => GoMapK.grew hg hO (m1 (On.back (by decide) q))), (fun q => (f62 (On.back (by decide) q)).on), (fun q => (f65 (On.back (by decide) q)).on)⟩
              · obtain rfl : _ = o := Option.some.inj hi
                have p2 := Lib.hid (pre_on (k := 2) (by kernel_rfl) hpre)
                have p5 := Lib.hid (pre_on (k := 5) (by kernel_rfl) hpre)
                go_wp2_with (first | (refine wl_loadM ?_) | (refine wl_load ?_) | (refine wl_fill1 ?_) | (refine wl_fill2 ?_) | (refine wl_storeM ?_) | (refine wl_makeM ?_; intro gm W' hgm hl hT; have hs := hl.out.size; (try simp at hs)) | (refine wl_store (h1 := mC_one _) ?_) | (refine wl_sliceM ?_) | (refine wl_append (he := eltMp) (h1 := mC_one _) ?_; intro v' w' ho hg hb; have hs := hg.size; (try simp at hs); rw [mCs_snoc] at ho; (try obtain ⟨gz, cz, rfl, hzb, hzl, -⟩ := OwnK.maps ho (by simp) (by omega))) | (refine wl_mapLook true ?_ (hM := findGom) (hv := by (first | exact decide_eq_true (by assumption)))) | (refine wl_mapLook false ?_ (hM := findGom) (hv := by (first | exact decide_eq_false (by assumption)))) | (refine wl_store ?_) | (refine wl_build ?_) | (refine wl_slice ?_) | (refine wl_append ?_; intro v' w' ho hg hb; have hs := hg.size; (try simp at hs); (try rw [ptCs_end] at ho); (try rw [ints_end] at ho); (try simp only [Nat.zero_add, Nat.reduceAdd, List.nil_append, List.cons_append] at ho)) | ((with_reducible apply region_gd (id := 11)); refine region_QNA (id := 11) 8 [⟨7, 12, #[.int .i64 0, .int .i64 0, .int .i64 0, .int .i64 0, .int .i64 0, .int .i64 0, .int .i64 0, .int .i64 0, .int .i64 0], 47⟩] (.k (.k (.k (.k (.k (.k (.k (.d (.d .n))))))))) ⟨(fun o ho ρ W => by obtain rfl : _ = o := Option.some.inj ho; simp [execOp, go_sem]), trivial⟩ ?_; apply Exists.intro; refine ⟨fun G => ?_, fun g W hl hg hd => ?_⟩; (· ((repeat (first | go_big_quiet_skip | (go_big_quiet_want; first | (refine q_loadM ?_; simp only [Act.put, List.setIfInBounds_toArray, List.set_cons_zero, List.set_cons_succ]; go_big_quiet_on) | (refine q_load ?_; simp only [Act.put, List.setIfInBounds_toArray, List.set_cons_zero, List.set_cons_succ]; go_big_quiet_on) | (go_big_quiet_op; first | go_big_quiet_on)))); exact rfl)); obtain ⟨⟨q12, k12⟩, -⟩ := hg; have hs := hl.out.size; (try simp at hs); dsimp only at q12 k12; (try simp at q12); have l12 := k12.lt; clear hd; simp only [List.map_cons, List.map_nil, puts, Act.put, List.setIfInBounds_toArray, List.set_cons_zero, List.set_cons_succ, List.drop_succ_cons, List.drop_zero]; generalize g 12 = g12 at *; skip))
                exact ⟨rfl, ⟨_, rfl⟩, x47, x48, x49, x50, x51, x52, x52, rfl, hLw, (by first | omega | (simp; omega)), hbx, (fun q => f0 (On.back (by decide) q)), (fun q => f1 (On.back (by decide) q)), (fun q => f2 (On.back (by decide) q)), (fun q => f3 (On.back (by decide) q)), (fun q => by obtain ⟨g, e1, hr⟩ := f4 (On.back (by decide) q); exact ⟨g, e1, fun q2 => hr (Of.fwd (by decide) q2)⟩), (fun q => f5 (On.back (by decide) q)), (fun q => e5 (Of.fwd (by decide) q)), (fun _ => rfl), (fun q => (Of.no hS (by decide) q).elim), (fun q => m0 (Of.fwd (by decide) q)), (fun q => m1 (On.back (by decide) q)), (fun _ => On.on p2.out), (fun _ => On.on p5.out)⟩
              · obtain rfl : _ = o := Option.some.inj hi
                have p0 := pre_on (k := 0) (by kernel_rfl) hpre
                have p1 := pre_on (k := 1) (by kernel_rfl) hpre
                obtain rfl := f0 p0
                obtain rfl := f1 p1
                have hM := m0 Hno
                go_wp2_with ((refine wl_mapUpd (g := gm) (L := A2) (t := t) ?_ hM hnin rfl (by first | exact .inl rfl | exact .inr rfl)); intro W' hM2 hT; have hs2 := hT.out.1)
                exact ⟨rfl, ⟨undef, rfl⟩, (.map (some gm)), mV t, x49, x50, x51, x52, x7, rfl, (LowK.turn hT (by omega) hLw), (by first | omega | (simp; omega)), hbx.turn hT hM, (fun _ => rfl), (fun _ => rfl), (fun q => f2 (On.back (by decide) q)), (fun q => f3 (On.back (by decide) q)), (fun q => by obtain ⟨g, e1, hr⟩ := f4 (On.back (by decide) q); exact ⟨g, e1, fun q2 => RowK.turn hT hM (hr (Of.fwd (by decide) q2))⟩), (fun q => OwnK.turn hT hM (f5 (On.back (by decide) q))), (fun q => OwnK.turn hT hM (e5 (Of.fwd (by decide) q))), (fun q => f6 (On.back (by decide) q)), (fun q => e6 (Of.fwd (by decide) q)), (fun q => (Of.no hS (by decide) q).elim), (fun _ => hM2), (fun q => (f62 (On.back (by decide) q)).on), (fun q => (f65 (On.back (by decide) q)).on)⟩
              · simp at hi
            rintro S2 a2 W5 ⟨x47, x48, x49, x50, x51, x52, x7, rfl, hLw, hsz2, hbx, f0, f1, f2, f3, f4, f5, e5, f6, e6, m0, m1, f62, f65⟩ hal
            replace hal : ∀ i, i < 8 → On S2 i := fun i hi => ⟨hal i hi⟩
            have hO2 := f5 (hal 5 (by decide))
            have hM2 := m1 (hal 7 (by decide))
            obtain rfl := f6 (hal 6 (by decide))
            clear f0 f1 f2 f3 f4 f5 e5 f6 e6 m0 m1 f62 f65 hal hO1 hM1 hV1 hbx0 hsz1 hbx
            subst hA
            simp only [puts, Act.put, List.setIfInBounds_toArray, List.set_cons_zero, List.set_cons_succ]
            rename_i Kq hKq
            refine hKq _ _ ?_
            clear hKq Kq
            go_wp2_with (first | (refine wl_loadM ?_) | (refine wl_load ?_) | (refine wl_fill1 ?_) | (refine wl_fill2 ?_) | (refine wl_storeM ?_) | (refine wl_makeM ?_; intro gm W' hgm hl hT; have hs := hl.out.size; (try simp at hs)) | (refine wl_store (h1 := mC_one _) ?_) | (refine wl_sliceM ?_) | (refine wl_append (he := eltMp) (h1 := mC_one _) ?_; intro v' w' ho hg hb; have hs := hg.size; (try simp at hs); rw [mCs_snoc] at ho; (try obtain ⟨gz, cz, rfl, hzb, hzl, -⟩ := OwnK.maps ho (by simp) (by omega))) | (refine wl_mapLook true ?_ (hM := findGom) (hv := by (first | exact decide_eq_true (by assumption)))) | (refine wl_mapLook false ?_ (hM := findGom) (hv := by (first | exact decide_eq_false (by assumption)))) | (refine wl_store ?_) | (refine wl_build ?_) | (refine wl_slice ?_) | (refine wl_append ?_; intro v' w' ho hg hb; have hs := hg.size; (try simp at hs); (try rw [ptCs_end] at ho); (try rw [ints_end] at ho); (try simp only [Nat.zero_add, Nat.reduceAdd, List.nil_append, List.cons_append] at ho)) | ((with_reducible apply region_gd (id := 11)); refine region_QNA (id := 11) 8 [⟨7, 12, #[.int .i64 0, .int .i64 0, .int .i64 0, .int .i64 0, .int .i64 0, .int .i64 0, .int .i64 0, .int .i64 0, .int .i64 0], 47⟩] (.k (.k (.k (.k (.k (.k (.k (.d (.d .n))))))))) ⟨(fun o ho ρ W => by obtain rfl : _ = o := Option.some.inj ho; simp [execOp, go_sem]), trivial⟩ ?_; apply Exists.intro; refine ⟨fun G => ?_, fun g W hl hg hd => ?_⟩; (· ((repeat (first | go_big_quiet_skip | (go_big_quiet_want; first | (refine q_loadM ?_; simp only [Act.put, List.setIfInBounds_toArray, List.set_cons_zero, List.set_cons_succ]; go_big_quiet_on) | (refine q_load ?_; simp only [Act.put, List.setIfInBounds_toArray, List.set_cons_zero, List.set_cons_succ]; go_big_quiet_on) | (go_big_quiet_op; first | go_big_quiet_on)))); exact rfl)); obtain ⟨⟨q12, k12⟩, -⟩ := hg; have hs := hl.out.size; (try simp at hs); dsimp only at q12 k12; (try simp at q12); have l12 := k12.lt; clear hd; simp only [List.map_cons, List.map_nil, puts, Act.put, List.setIfInBounds_toArray, List.set_cons_zero, List.set_cons_succ, List.drop_succ_cons, List.drop_zero]; generalize g 12 = g12 at *; skip))
            go_roundw
            case rel => exact ⟨k + 1, by omega, by go_num, by rw [E1.out, List.length_append, HN.out]; exact hO2, by rw [E1.out]; exact hM2, hLw, hsz2⟩
            case measure => (simp [intOf]; try omega)
        · obtain rfl : n = k := by omega
          have es := seqA_succ HAA.out HX.out hml
          have hpos2 := seqA_pos p ms (i + 1)
          obtain ⟨A2, hA2⟩ : ∃ A2, innA p ms A x n = A2 := ⟨_, rfl⟩
          rw [hA2] at hO hM hle hpre es
          have HE := Lib.hid es
          rw [es] at hpos2
          obtain ⟨vg, cpk, rfl, hg, hg2, hm⟩ := OwnK.maps hO rfl hpos2
          clear hm hA2 es
          by_cases h2 : 200 < A2.length
          · have := HR.out.limit hG (by rw [HAA.out]; exact hlt) (by rw [HE.out]; exact h2)
            obtain ⟨rfl, rfl⟩ := this
            have h2' : (200 : Int) < (A2.length : Int) := by omega
            go_wp2_with (first | (refine wl_loadM ?_) | (refine wl_load ?_) | (refine wl_fill1 ?_) | (refine wl_fill2 ?_) | (refine wl_storeM ?_) | (refine wl_makeM ?_; intro gm W' hgm hl hT; have hs := hl.out.size; (try simp at hs)) | (refine wl_store (h1 := mC_one _) ?_) | (refine wl_sliceM ?_) | (refine wl_append (he := eltMp) (h1 := mC_one _) ?_; intro v' w' ho hg hb; have hs := hg.size; (try simp at hs); rw [mCs_snoc] at ho; (try obtain ⟨gz, cz, rfl, hzb, hzl, -⟩ := OwnK.maps ho (by simp) (by omega))) | (refine wl_mapLook true ?_ (hM := findGom) (hv := by (first | exact decide_eq_true (by assumption)))) | (refine wl_mapLook false ?_ (hM := findGom) (hv := by (first | exact decide_eq_false (by assumption)))) | (refine wl_store ?_) | (refine wl_build ?_) | (refine wl_slice ?_) | (refine wl_append ?_; intro v' w' ho hg hb; have hs := hg.size; (try simp at hs); (try rw [ptCs_end] at ho); (try rw [ints_end] at ho); (try simp only [Nat.zero_add, Nat.reduceAdd, List.nil_append, List.cons_append] at ho)) | ((with_reducible apply region_gd (id := 11)); refine region_QNA (id := 11) 8 [⟨7, 12, #[.int .i64 0, .int .i64 0, .int .i64 0, .int .i64 0, .int .i64 0, .int .i64 0, .int .i64 0, .int .i64 0, .int .i64 0], 47⟩] (.k (.k (.k (.k (.k (.k (.k (.d (.d .n))))))))) ⟨(fun o ho ρ W => by obtain rfl : _ = o := Option.some.inj ho; simp [execOp, go_sem]), trivial⟩ ?_; apply Exists.intro; refine ⟨fun G => ?_, fun g W hl hg hd => ?_⟩; (· ((repeat (first | go_big_quiet_skip | (go_big_quiet_want; first | (refine q_loadM ?_; simp only [Act.put, List.setIfInBounds_toArray, List.set_cons_zero, List.set_cons_succ]; go_big_quiet_on) | (refine q_load ?_; simp only [Act.put, List.setIfInBounds_toArray, List.set_cons_zero, List.set_cons_succ]; go_big_quiet_on) | (go_big_quiet_op; first | go_big_quiet_on)))); exact rfl)); obtain ⟨⟨q12, k12⟩, -⟩ := hg; have hs := hl.out.size; (try simp at hs); dsimp only at q12 k12; (try simp at q12); have l12 := k12.lt; clear hd; simp only [List.map_cons, List.map_nil, puts, Act.put, List.setIfInBounds_toArray, List.set_cons_zero, List.set_cons_succ, List.drop_succ_cons, List.drop_zero]; generalize g 12 = g12 at *; skip))
            (apply ret_two Try.results9; (conv => lhs; whnf); (conv => lhs; whnf); exact rfl)
            exact ret_ret rfl findLow
          · have h2' : ¬ (200 : Int) < (A2.length : Int) := by omega
            go_wp2_with (first | (refine wl_loadM ?_) | (refine wl_load ?_) | (refine wl_fill1 ?_) | (refine wl_fill2 ?_) | (refine wl_storeM ?_) | (refine wl_makeM ?_; intro gm W' hgm hl hT; have hs := hl.out.size; (try simp at hs)) | (refine wl_store (h1 := mC_one _) ?_) | (refine wl_sliceM ?_) | (refine wl_append (he := eltMp) (h1 := mC_one _) ?_; intro v' w' ho hg hb; have hs := hg.size; (try simp at hs); rw [mCs_snoc] at ho; (try obtain ⟨gz, cz, rfl, hzb, hzl, -⟩ := OwnK.maps ho (by simp) (by omega))) | (refine wl_mapLook true ?_ (hM := findGom) (hv := by (first | exact decide_eq_true (by assumption)))) | (refine wl_mapLook false ?_ (hM := findGom) (hv := by (first | exact decide_eq_false (by assumption)))) | (refine wl_store ?_) | (refine wl_build ?_) | (refine wl_slice ?_) | (refine wl_append ?_; intro v' w' ho hg hb; have hs := hg.size; (try simp at hs); (try rw [ptCs_end] at ho); (try rw [ints_end] at ho); (try simp only [Nat.zero_add, Nat.reduceAdd, List.nil_append, List.cons_append] at ho)) | ((with_reducible apply region_gd (id := 11)); refine region_QNA (id := 11) 8 [⟨7, 12, #[.int .i64 0, .int .i64 0, .int .i64 0, .int .i64 0, .int .i64 0, .int .i64 0, .int .i64 0, .int .i64 0, .int .i64 0], 47⟩] (.k (.k (.k (.k (.k (.k (.k (.d (.d .n))))))))) ⟨(fun o ho ρ W => by obtain rfl : _ = o := Option.some.inj ho; simp [execOp, go_sem]), trivial⟩ ?_; apply Exists.intro; refine ⟨fun G => ?_, fun g W hl hg hd => ?_⟩; (· ((repeat (first | go_big_quiet_skip | (go_big_quiet_want; first | (refine q_loadM ?_; simp only [Act.put, List.setIfInBounds_toArray, List.set_cons_zero, List.set_cons_succ]; go_big_quiet_on) | (refine q_load ?_; simp only [Act.put, List.setIfInBounds_toArray, List.set_cons_zero, List.set_cons_succ]; go_big_quiet_on) | (go_big_quiet_op; first | go_big_quiet_on)))); exact rfl)); obtain ⟨⟨q12, k12⟩, -⟩ := hg; have hs := hl.out.size; (try simp at hs); dsimp only at q12 k12; (try simp at q12); have l12 := k12.lt; clear hd; simp only [List.map_cons, List.map_nil, puts, Act.put, List.setIfInBounds_toArray, List.set_cons_zero, List.set_cons_succ, List.drop_succ_cons, List.drop_zero]; generalize g 12 = g12 at *; skip))
            go_roundw
            case rel =>
              refine ⟨i + 1, fun j hj => ?_, by rw [HE.out]; omega, by go_num, by rw [HE.out]; exact findOwn, by rw [HE.out]; exact findGom, findLow, (by first | omega | (simp; omega))⟩
              by_cases ej : j = i
              · subst ej; exact ⟨by rw [HAA.out]; exact hlt, by rw [HE.out]; omega⟩
              · exact hG j (by omega)
            case measure => (simp [intOf]; try omega)
    · have hie : A.length = i := by omega
      have := (HR.out.whole hG (by rw [HAA.out, hie]))
      obtain ⟨rfl, rfl⟩ := this
      go_wp2_with (first | (refine wl_loadM ?_) | (refine wl_load ?_) | (refine wl_fill1 ?_) | (refine wl_fill2 ?_) | (refine wl_storeM ?_) | (refine wl_makeM ?_; intro gm W' hgm hl hT; have hs := hl.out.size; (try simp at hs)) | (refine wl_store (h1 := mC_one _) ?_) | (refine wl_sliceM ?_) | (refine wl_append (he := eltMp) (h1 := mC_one _) ?_; intro v' w' ho hg hb; have hs := hg.size; (try simp at hs); rw [mCs_snoc] at ho; (try obtain ⟨gz, cz, rfl, hzb, hzl, -⟩ := OwnK.maps ho (by simp) (by omega))) | (refine wl_mapLook true ?_ (hM := findGom) (hv := by (first | exact decide_eq_true (by assumption)))) | (refine wl_mapLook false ?_ (hM := findGom) (hv := by (first | exact decide_eq_false (by assumption)))) | (refine wl_store ?_) | (refine wl_build ?_) | (refine wl_slice ?_) | (refine wl_append ?_; intro v' w' ho hg hb; have hs := hg.size; (try simp at hs); (try rw [ptCs_end] at ho); (try rw [ints_end] at ho); (try simp only [Nat.zero_add, Nat.reduceAdd, List.nil_append, List.cons_append] at ho)) | ((with_reducible apply region_gd (id := 11)); refine region_QNA (id := 11) 8 [⟨7, 12, #[.int .i64 0, .int .i64 0, .int .i64 0, .int .i64 0, .int .i64 0, .int .i64 0, .int .i64 0, .int .i64 0, .int .i64 0], 47⟩] (.k (.k (.k (.k (.k (.k (.k (.d (.d .n))))))))) ⟨(fun o ho ρ W => by obtain rfl : _ = o := Option.some.inj ho; simp [execOp, go_sem]), trivial⟩ ?_; apply Exists.intro; refine ⟨fun G => ?_, fun g W hl hg hd => ?_⟩; (· ((repeat (first | go_big_quiet_skip | (go_big_quiet_want; first | (refine q_loadM ?_; simp only [Act.put, List.setIfInBounds_toArray, List.set_cons_zero, List.set_cons_succ]; go_big_quiet_on) | (refine q_load ?_; simp only [Act.put, List.setIfInBounds_toArray, List.set_cons_zero, List.set_cons_succ]; go_big_quiet_on) | (go_big_quiet_op; first | go_big_quiet_on)))); exact rfl)); obtain ⟨⟨q12, k12⟩, -⟩ := hg; have hs := hl.out.size; (try simp at hs); dsimp only at q12 k12; (try simp at q12); have l12 := k12.lt; clear hd; simp only [List.map_cons, List.map_nil, puts, Act.put, List.setIfInBounds_toArray, List.set_cons_zero, List.set_cons_succ, List.drop_succ_cons, List.drop_zero]; generalize g 12 = g12 at *; skip))
      (apply ret_two Try.results9; (conv => lhs; whnf); (conv => lhs; whnf); exact rfl)
      exact ret_ret rfl findLow
end Go.Proofs.Ytnpmdchphaenaaa
/- Plain: maps modulo p: products, scalars, determinants. -/
namespace Go.Proofs.Ytnpmdchphaenaaa
open Go.RowKit
set_option linter.unusedVariables false
set_option linter.unusedSimpArgs false
/-- One list is k times the other, modulo p. -/
inductive CgL (p k : Int) : List Int → List Int → Prop
  | nil : CgL p k [] []
  | cons {a b : Int} {l l' : List Int} : p ∣ a - k * b → CgL p k l l' → CgL p k (a :: l) (b :: l')
theorem small_eq {p a b : Int} (hp : 3 ≤ p) (ha : 0 ≤ a ∧ a ≤ p - 1) (hb : 0 ≤ b ∧ b ≤ p - 1) (h : p ∣ a - b) : a = b := by
  obtain ⟨q, hq⟩ := h
  have h1 : q < 1 := by
    apply Classical.byContradiction; intro hn
    have : p * 1 ≤ p * q := Int.mul_le_mul_of_nonneg_left (by omega) (by omega)
    omega
  have h2 : -1 < q := by
    apply Classical.byContradiction; intro hn
    have : p * q ≤ p * (-1) := Int.mul_le_mul_of_nonneg_left (by omega) (by omega)
    omega
  have : q = 0 := by omega
  subst this; omega
theorem cgL_one {p k : Int} (hp : 3 ≤ p) {l l' : List Int} (h : CgL p k l l') (hk : p ∣ 1 - k) (n1 : numsB p l = true) (n2 : numsB p l' = true) : l = l' := by
  induction h with
  | nil => rfl
  | @cons a b l l' hd _ ih =>
    simp only [numsB, List.all_cons, Bool.and_eq_true, numB_iff] at n1 n2
    rw [ih n1.2 n2.2]
    have : p ∣ a - b := by
      obtain ⟨x, hx⟩ := hd
      obtain ⟨y, hy⟩ := hk
      exact ⟨x - y * b, by grind⟩
    rw [small_eq hp n1.1 n2.1 this]
theorem norm_uniq {p k : Int} (hp : prB p = true) {l l' : List Int} (h : CgL p k l l') (hk : ¬ p ∣ k) (f1 : firstNZ l = 1) (f2 : firstNZ l' = 1) (n1 : numsB p l = true) (n2 : numsB p l' = true) : l = l' := by
  have h3 := (prB_bd hp).1
  induction h with
  | nil => rfl
  | @cons a b l l' hd ht ih =>
    have n1' := n1
    have n2' := n2
    simp only [numsB, List.all_cons, Bool.and_eq_true, numB_iff] at n1 n2
    rw [firstNZ_cons] at f1 f2
    by_cases hb : b = 0
    · subst hb
      have ha : a = 0 := small_eq h3 n1.1 n2.1 (by simpa using hd)
      subst ha
      rw [if_pos rfl] at f1 f2
      rw [ih f1 f2 n1.2 n2.2]
    · rw [if_neg hb] at f2
      subst f2
      by_cases ha : a = 0
      · subst ha
        exfalso
        obtain ⟨x, hx⟩ := hd
        exact hk ⟨-x, by grind⟩
      · rw [if_neg ha] at f1
        subst f1
        have hk1 : p ∣ 1 - k := by simpa using hd
        exact cgL_one h3 (.cons hd ht) hk1 n1' n2'
theorem CgL.trans {p k k' : Int} {a b : List Int} (h : CgL p k a b) : ∀ {c : List Int}, CgL p k' b c → CgL p (k * k') a c := by
  induction h with
  | nil => intro c h2; cases h2; exact .nil
  | @cons x y l l' hd _ ih =>
    intro c h2
    cases h2 with
    | @cons _ z _ l2 hd2 ht2 =>
      refine .cons ?_ (ih ht2)
      obtain ⟨u, hu⟩ := hd
      obtain ⟨v, hv⟩ := hd2
      exact ⟨u + k * v, by grind⟩
theorem cgL_map (p f : Int) : ∀ l : List Int, CgL p f (l.map fun x => x % p * f % p) l
  | [] => .nil
  | x :: l => by
    refine .cons ?_ (cgL_map p f l)
    obtain ⟨q, e⟩ := mod_fac p f x
    exact ⟨-q, by show x % p * f % p - f * x = p * -q; rw [e]; grind⟩
theorem cgL_norm (p : Int) (l : List Int) : CgL p (facL p l) (normL p l) l := cgL_map p _ l
theorem fac_ndL {p : Int} (hp : prB p = true) {l : List Int} (h : ∃ x ∈ l, ¬ p ∣ x) : ¬ p ∣ facL p l := by
  have hb := prB_bd hp
  have h0 : facL p l ≠ 0 := by
    intro e
    rw [facL_zero hp] at e
    have hz := firstNZ_eq_zero.1 e
    obtain ⟨x, hx, hn⟩ := h
    simp only [zerosB, List.all_map, List.all_eq_true] at hz
    have := hz x hx
    simp at this
    exact hn (Int.dvd_of_emod_eq_zero this)
  have h1 := firstNZ_mod_bd p l (by omega)
  have h2 : facL p l < p ∧ 0 ≤ facL p l := by
    unfold facL at h0 ⊢
    by_cases hz : firstNZ (l.map (· % p)) = 0
    · rw [hz, invP_zero p (by omega)] at h0; exact (h0 rfl).elim
    · have := invP_spec hp (by omega) h1.2; omega
  intro hd
  have := Int.le_of_dvd (by omega) hd
  omega
/-- One map is a multiple of the other, modulo p. -/
def PR (p : Int) (x y : M9) : Prop := ∃ c, ¬ p ∣ c ∧ CgL p c (listM x) (listM y)
theorem PR.trans {p : Int} (hp : prB p = true) {x y z : M9} (h : PR p x y) (h2 : PR p y z) : PR p x z := by
  obtain ⟨c, hc, h⟩ := h
  obtain ⟨d, hd, h2⟩ := h2
  exact ⟨c * d, mul_nd hp hc hd, h.trans h2⟩
theorem cgL_refl (p : Int) : ∀ l : List Int, CgL p 1 l l
  | [] => .nil
  | x :: l => .cons ⟨0, by grind⟩ (cgL_refl p l)
theorem inv_ex {p c : Int} (hp : prB p = true) (hc : ¬ p ∣ c) : ∃ d, ¬ p ∣ d ∧ p ∣ d * c - 1 := by
  obtain ⟨h3, h13⟩ := prB_bd hp
  have h1 := Int.emod_nonneg c (show p ≠ 0 by omega)
  have h2 := Int.emod_lt_of_pos c (show 0 < p by omega)
  have h0 : c % p ≠ 0 := fun e => hc (Int.dvd_of_emod_eq_zero e)
  obtain ⟨k1, k2, k3, -⟩ := invP_spec hp (show 0 < c % p by omega) h2
  refine ⟨invP p (c % p), fun hd => ?_, ?_⟩
  · have := Int.le_of_dvd (by omega) hd; omega
  · have e1 := Int.emod_add_mul_ediv c p
    have e2 := Int.emod_add_mul_ediv (c % p * invP p (c % p)) p
    rw [k3] at e2
    generalize invP p (c % p) = d at *
    generalize c / p = q at *
    generalize c % p * d / p = r at *
    generalize c % p = m at *
    exact ⟨d * q + r, by rw [← e1]; grind⟩
theorem CgL.symm {p c d : Int} {a b : List Int} (h : CgL p c a b) (hd : p ∣ d * c - 1) : CgL p d b a := by
  induction h with
  | nil => exact .nil
  | @cons x y l l' h _ ih =>
    refine .cons ?_ ih
    obtain ⟨u, hu⟩ := h
    obtain ⟨v, hv⟩ := hd
    exact ⟨-(d * u) - v * y, by grind⟩
theorem PR.symm {p : Int} (hp : prB p = true) {x y : M9} (h : PR p x y) : PR p y x := by
  obtain ⟨c, hc, h⟩ := h
  obtain ⟨d, hd, e⟩ := inv_ex hp hc
  exact ⟨d, hd, h.symm e⟩
def detM (x : M9) : Int := detZ x.1 x.2.1 x.2.2
theorem okM_parts {p : Int} {t : M9} (h : okM p t = true) : prB p = true ∧ firstNZ (listM t) = 1 ∧ numsB p (listM t) = true ∧ ¬ p ∣ detM t := by
  unfold okM mapB normB at h
  simp only [Bool.and_eq_true, bne_iff_ne, ne_eq, beq_iff_eq] at h
  exact ⟨h.1, h.2.1.1, h.2.1.2, fun hd => h.2.2 (Int.emod_eq_zero_of_dvd hd)⟩
theorem okM_mk {p : Int} {t : M9} (hp : prB p = true) (h1 : firstNZ (listM t) = 1) (h2 : numsB p (listM t) = true) (h3 : ¬ p ∣ detM t) : okM p t = true := by
  unfold okM mapB normB
  simp only [Bool.and_eq_true, bne_iff_ne, ne_eq, beq_iff_eq]
  exact ⟨hp, ⟨h1, h2⟩, fun e => h3 (Int.dvd_of_emod_eq_zero e)⟩
theorem listM_inj {x y : M9} (h : listM x = listM y) : x = y := by
  obtain ⟨⟨a, b, c⟩, ⟨d, e, f⟩, ⟨g, i, j⟩⟩ := x
  obtain ⟨⟨a', b', c'⟩, ⟨d', e', f'⟩, ⟨g', i', j'⟩⟩ := y
  simp [listM] at h
  obtain ⟨rfl, rfl, rfl, rfl, rfl, rfl, rfl, rfl, rfl⟩ := h
  rfl
/-- Two maps that are multiples of one another are one. -/
theorem PR.eq {p : Int} {x y : M9} (hx : okM p x = true) (hy : okM p y = true) (h : PR p x y) : x = y := by
  obtain ⟨hp, a1, a2, -⟩ := okM_parts hx
  obtain ⟨-, b1, b2, -⟩ := okM_parts hy
  obtain ⟨c, hc, h⟩ := h
  exact listM_inj (norm_uniq hp h hc a1 b1 a2 b2)
/-- The product. -/
def mulZ (x y : M9) : M9 :=
  ((dotI x.1 (colM y).1, dotI x.1 (colM y).2.1, dotI x.1 (colM y).2.2), (dotI x.2.1 (colM y).1, dotI x.2.1 (colM y).2.1, dotI x.2.1 (colM y).2.2), (dotI x.2.2 (colM y).1, dotI x.2.2 (colM y).2.1, dotI x.2.2 (colM y).2.2))
theorem det_mul (x y : M9) : detM (mulZ x y) = detM x * detM y := by
  obtain ⟨⟨a, b, c⟩, ⟨d, e, f⟩, ⟨g, i, j⟩⟩ := x
  obtain ⟨⟨a', b', c'⟩, ⟨d', e', f'⟩, ⟨g', i', j'⟩⟩ := y
  simp only [detM, mulZ, colM, dotI, detZ]
  grind
theorem mul_assocZ (x y z : M9) : mulZ (mulZ x y) z = mulZ x (mulZ y z) := by
  obtain ⟨⟨a, b, c⟩, ⟨d, e, f⟩, ⟨g, i, j⟩⟩ := x
  obtain ⟨⟨a', b', c'⟩, ⟨d', e', f'⟩, ⟨g', i', j'⟩⟩ := y
  obtain ⟨⟨a2, b2, c2⟩, ⟨d2, e2, f2⟩, ⟨g2, i2, j2⟩⟩ := z
  simp only [mulZ, colM, dotI, Prod.mk.injEq]
  refine ⟨⟨?_, ?_, ?_⟩, ⟨?_, ?_, ?_⟩, ⟨?_, ?_, ?_⟩⟩ <;> grind
end Go.Proofs.Ytnpmdchphaenaaa
/- Plain: the group of maps: products are maps, cancel, are bracketed as one likes, lead points. -/
namespace Go.Proofs.Ytnpmdchphaenaaa
open Go.RowKit
set_option linter.unusedVariables false
set_option linter.unusedSimpArgs false
theorem first_map {p f : Int} : ∀ (l : List Int) (r : Int), firstNZ (l.map (· % p)) = r → r ≠ 0 → r * f % p = 1 → firstNZ (l.map fun x => x % p * f % p) = 1
  | [], r, h, h0, _ => absurd h.symm h0
  | x :: l, r, h, h0, h1 => by
    simp only [List.map_cons] at h ⊢
    rw [firstNZ_cons] at h ⊢
    by_cases e : x % p = 0
    · rw [if_pos e] at h
      rw [e]
      simp only [Int.zero_mul, Int.zero_emod, if_true]
      exact first_map l r h h0 h1
    · rw [if_neg e] at h
      rw [h, h1, if_neg (by decide)]
theorem normL_ok {p : Int} (hp : prB p = true) {l : List Int} (h : ∃ x ∈ l, ¬ p ∣ x) : firstNZ (normL p l) = 1 ∧ numsB p (normL p l) = true := by
  have hb := prB_bd hp
  have hn : firstNZ (l.map (· % p)) ≠ 0 := fun e => by
    have hz := firstNZ_eq_zero.1 e
    obtain ⟨x, hx, hn⟩ := h
    simp only [zerosB, List.all_map, List.all_eq_true] at hz
    have := hz x hx
    simp at this
    exact hn (Int.dvd_of_emod_eq_zero this)
  have h1 := firstNZ_mod_bd p l (by omega)
  obtain ⟨-, -, h3, -⟩ := invP_spec hp (show 0 < firstNZ (l.map (· % p)) by omega) h1.2
  refine ⟨first_map l _ rfl hn h3, ?_⟩
  unfold numsB normL
  rw [List.all_map, List.all_eq_true]
  intro x _
  show numB p (x % p * facL p l % p) = true
  rw [numB_iff]
  have := Int.emod_nonneg (x % p * facL p l) (show p ≠ 0 by omega)
  have := Int.emod_lt_of_pos (x % p * facL p l) (show 0 < p by omega)
  omega
theorem cgL_rows {p c : Int} {x y : M9} : CgL p c (listM x) (listM y) ↔ cg p c x.1 y.1 ∧ cg p c x.2.1 y.2.1 ∧ cg p c x.2.2 y.2.2 := by
  obtain ⟨⟨a, b, d⟩, ⟨e, f, g⟩, ⟨i, j, k⟩⟩ := x
  obtain ⟨⟨a', b', d'⟩, ⟨e', f', g'⟩, ⟨i', j', k'⟩⟩ := y
  constructor
  · intro h
    cases h with | cons h0 h => cases h with | cons h1 h => cases h with | cons h2 h => cases h with | cons h3 h => cases h with | cons h4 h => cases h with | cons h5 h => cases h with | cons h6 h => cases h with | cons h7 h => cases h with | cons h8 h =>
    exact ⟨⟨h0, h1, h2⟩, ⟨h3, h4, h5⟩, ⟨h6, h7, h8⟩⟩
  · rintro ⟨⟨h0, h1, h2⟩, ⟨h3, h4, h5⟩, ⟨h6, h7, h8⟩⟩
    exact .cons h0 (.cons h1 (.cons h2 (.cons h3 (.cons h4 (.cons h5 (.cons h6 (.cons h7 (.cons h8 .nil))))))))
theorem cgL_cols {p c : Int} {x y : M9} (h : CgL p c (listM x) (listM y)) : cg p c (colM x).1 (colM y).1 ∧ cg p c (colM x).2.1 (colM y).2.1 ∧ cg p c (colM x).2.2 (colM y).2.2 := by
  obtain ⟨⟨h0, h1, h2⟩, ⟨h3, h4, h5⟩, ⟨h6, h7, h8⟩⟩ := cgL_rows.1 h
  exact ⟨⟨h0, h3, h6⟩, ⟨h1, h4, h7⟩, ⟨h2, h5, h8⟩⟩
theorem dvd_add2 {p a b K a' b' : Int} (h : p ∣ a - K * a') (h' : p ∣ b - K * b') : p ∣ (a + b) - K * (a' + b') := by
  obtain ⟨u, hu⟩ := h
  obtain ⟨v, hv⟩ := h'
  exact ⟨u + v, by grind⟩
theorem cg_dotG {p c d : Int} {a a' b b' : Pt} (h : cg p c a a') (h' : cg p d b b') : p ∣ dotI a b - c * d * dotI a' b' := by
  unfold dotI
  exact dvd_add2 (dvd_add2 (dvd_pair h.1 h'.1) (dvd_pair h.2.1 h'.2.1)) (dvd_pair h.2.2 h'.2.2)
theorem cgL_mul {p c d : Int} {x x' y y' : M9} (h : CgL p c (listM x) (listM x')) (h' : CgL p d (listM y) (listM y')) : CgL p (c * d) (listM (mulZ x y)) (listM (mulZ x' y')) := by
  obtain ⟨r1, r2, r3⟩ := cgL_rows.1 h
  obtain ⟨k1, k2, k3⟩ := cgL_cols h'
  exact cgL_rows.2 ⟨⟨cg_dotG r1 k1, cg_dotG r1 k2, cg_dotG r1 k3⟩, ⟨cg_dotG r2 k1, cg_dotG r2 k2, cg_dotG r2 k3⟩, ⟨cg_dotG r3 k1, cg_dotG r3 k2, cg_dotG r3 k3⟩⟩
theorem PR.mul {p : Int} (hp : prB p = true) {x x' y y' : M9} (h : PR p x x') (h' : PR p y y') : PR p (mulZ x y) (mulZ x' y') := by
  obtain ⟨c, hc, h⟩ := h
  obtain ⟨d, hd, h'⟩ := h'
  exact ⟨c * d, mul_nd hp hc hd, cgL_mul h h'⟩
theorem PR.refl {p : Int} (hp : prB p = true) (x : M9) : PR p x x := ⟨1, nd_one hp, cgL_refl p _⟩
theorem cgL_det {p c : Int} {x y : M9} (h : CgL p c (listM x) (listM y)) : p ∣ detM x - c * (c * c) * detM y := by
  obtain ⟨⟨h0, h1, h2⟩, ⟨h3, h4, h5⟩, ⟨h6, h7, h8⟩⟩ := cgL_rows.1 h
  unfold detM detZ
  exact dvd_add2 (dvd_add2 (dvd_pair h0 (dvd_sub2 (dvd_pair h4 h8) (dvd_pair h5 h7))) (dvd_pair h1 (dvd_sub2 (dvd_pair h5 h6) (dvd_pair h3 h8)))) (dvd_pair h2 (dvd_sub2 (dvd_pair h3 h7) (dvd_pair h4 h6)))
theorem PR.det {p : Int} (hp : prB p = true) {x y : M9} (h : PR p x y) (hy : ¬ p ∣ detM y) : ¬ p ∣ detM x := by
  obtain ⟨c, hc, h⟩ := h
  intro hx
  obtain ⟨u, hu⟩ := cgL_det h
  obtain ⟨v, hv⟩ := hx
  exact mul_nd hp (mul_nd hp hc (mul_nd hp hc hc)) hy ⟨v - u, by grind⟩
theorem det_nz {p : Int} {x : M9} (h : ¬ p ∣ detM x) : ∃ z ∈ listM x, ¬ p ∣ z := by
  apply Classical.byContradiction
  intro hn
  have all : ∀ z ∈ listM x, p ∣ z := fun z hz => Classical.byContradiction fun e => hn ⟨z, hz, e⟩
  obtain ⟨u0, h0⟩ := all x.1.1 (by simp [listM])
  obtain ⟨u1, h1⟩ := all x.1.2.1 (by simp [listM])
  obtain ⟨u2, h2⟩ := all x.1.2.2 (by simp [listM])
  refine h ⟨u0 * (x.2.1.2.1 * x.2.2.2.2 - x.2.1.2.2 * x.2.2.2.1) + u1 * (x.2.1.2.2 * x.2.2.1 - x.2.1.1 * x.2.2.2.2) + u2 * (x.2.1.1 * x.2.2.2.1 - x.2.1.2.1 * x.2.2.1), ?_⟩
  unfold detM detZ
  rw [h0, h1, h2]
  grind
theorem dvd_mod (p z : Int) : p ∣ z % p - 1 * z := ⟨-(z / p), by have := Int.emod_add_mul_ediv z p; grind⟩
theorem mul_cg (p : Int) (x y : M9) : CgL p 1 (listM (mulM p x y)) (listM (mulZ x y)) := by
  refine cgL_rows.2 ⟨⟨?_, ?_, ?_⟩, ⟨?_, ?_, ?_⟩, ⟨?_, ?_, ?_⟩⟩ <;> exact dvd_mod p _
theorem times_PR {p : Int} (hp : prB p = true) {x y : M9} (hx : ¬ p ∣ detM x) (hy : ¬ p ∣ detM y) : PR p (timesM p x y) (mulZ x y) ∧ okM p (timesM p x y) = true := by
  have hd : ¬ p ∣ detM (mulZ x y) := by rw [det_mul]; exact mul_nd hp hx hy
  have h1 : PR p (mulM p x y) (mulZ x y) := ⟨1, nd_one hp, mul_cg p x y⟩
  have hd1 := PR.det hp h1 hd
  have hnz := det_nz hd1
  have h2 : PR p (timesM p x y) (mulM p x y) := ⟨_, fac_ndL hp hnz, cgL_norm p _⟩
  obtain ⟨n1, n2⟩ := normL_ok hp hnz
  exact ⟨h2.trans hp h1, okM_mk hp n1 n2 (PR.det hp h2 hd1)⟩
theorem times_ok {p : Int} {x y : M9} (hx : okM p x = true) (hy : okM p y = true) : okM p (timesM p x y) = true := (times_PR (okM_parts hx).1 (okM_parts hx).2.2.2 (okM_parts hy).2.2.2).2
theorem times_pr {p : Int} {x y : M9} (hx : okM p x = true) (hy : okM p y = true) : PR p (timesM p x y) (mulZ x y) := (times_PR (okM_parts hx).1 (okM_parts hx).2.2.2 (okM_parts hy).2.2.2).1
theorem times_assoc {p : Int} {x y z : M9} (hx : okM p x = true) (hy : okM p y = true) (hz : okM p z = true) : timesM p (timesM p x y) z = timesM p x (timesM p y z) := by
  have hp := (okM_parts hx).1
  have hxy := times_ok hx hy
  have hyz := times_ok hy hz
  refine PR.eq (times_ok hxy hz) (times_ok hx hyz) ?_
  refine (times_pr hxy hz).trans hp ?_
  refine ((times_pr hx hy).mul hp (PR.refl hp z)).trans hp ?_
  rw [mul_assocZ]
  exact (((PR.refl hp x).mul hp (times_pr hy hz)).symm hp).trans hp ((times_pr hx hyz).symm hp)
def adjM (x : M9) : M9 :=
  ((x.2.1.2.1 * x.2.2.2.2 - x.2.1.2.2 * x.2.2.2.1, x.1.2.2 * x.2.2.2.1 - x.1.2.1 * x.2.2.2.2, x.1.2.1 * x.2.1.2.2 - x.1.2.2 * x.2.1.2.1),
   (x.2.1.2.2 * x.2.2.1 - x.2.1.1 * x.2.2.2.2, x.1.1 * x.2.2.2.2 - x.1.2.2 * x.2.2.1, x.1.2.2 * x.2.1.1 - x.1.1 * x.2.1.2.2),
   (x.2.1.1 * x.2.2.2.1 - x.2.1.2.1 * x.2.2.1, x.1.2.1 * x.2.2.1 - x.1.1 * x.2.2.2.1, x.1.1 * x.2.1.2.1 - x.1.2.1 * x.2.1.1))
def scZ (k : Int) (x : M9) : M9 := ((k * x.1.1, k * x.1.2.1, k * x.1.2.2), (k * x.2.1.1, k * x.2.1.2.1, k * x.2.1.2.2), (k * x.2.2.1, k * x.2.2.2.1, k * x.2.2.2.2))
theorem adj_mul (x y : M9) : mulZ (adjM x) (mulZ x y) = scZ (detM x) y := by
  obtain ⟨⟨a, b, c⟩, ⟨d, e, f⟩, ⟨g, i, j⟩⟩ := x
  obtain ⟨⟨a', b', c'⟩, ⟨d', e', f'⟩, ⟨g', i', j'⟩⟩ := y
  simp only [adjM, mulZ, colM, dotI, scZ, detM, detZ, Prod.mk.injEq]
  refine ⟨⟨?_, ?_, ?_⟩, ⟨?_, ?_, ?_⟩, ⟨?_, ?_, ?_⟩⟩ <;> grind
theorem sc_PR {p k : Int} (hk : ¬ p ∣ k) (x : M9) : PR p (scZ k x) x := by
  refine ⟨k, hk, cgL_rows.2 ⟨⟨?_, ?_, ?_⟩, ⟨?_, ?_, ?_⟩, ⟨?_, ?_, ?_⟩⟩⟩ <;> exact ⟨0, by simp [scZ]⟩
/-- Products cancel. -/
theorem times_cancel {p : Int} {m x y : M9} (hm : okM p m = true) (hx : okM p x = true) (hy : okM p y = true) (h : timesM p m x = timesM p m y) : x = y := by
  have hp := (okM_parts hm).1
  have hd := (okM_parts hm).2.2.2
  refine PR.eq hx hy ?_
  have h1 : PR p (mulZ m x) (mulZ m y) := by
    have := times_pr hm hx
    rw [h] at this
    exact (this.symm hp).trans hp (times_pr hm hy)
  have h2 := (PR.refl hp (adjM m)).mul hp h1
  rw [adj_mul, adj_mul] at h2
  exact (((sc_PR hd x).symm hp).trans hp h2).trans hp (sc_PR hd y)
end Go.Proofs.Ytnpmdchphaenaaa

