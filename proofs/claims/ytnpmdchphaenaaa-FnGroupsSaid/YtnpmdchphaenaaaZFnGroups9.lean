/- Texts of the claim, in build order: GP3, GP4, FG1, DR2, DR3, DR4, DR5, RegD, DR6, DR7, DR8, DR9, FG2, FG3. No condition. -/
import Derived.Test.YtnpmdchphaenaaaZFnGroups8
/- Plain: the group acts; an orbit's length divides the group's order. -/
namespace Go.Proofs.Ytnpmdchphaenaaa
open Go.RowKit
set_option linter.unusedVariables false
set_option linter.unusedSimpArgs false
def PP (p : Int) (a b : Pt) : Prop := ∃ c, ¬ p ∣ c ∧ cg p c a b
theorem PP.trans {p : Int} (hp : prB p = true) {a b c : Pt} (h : PP p a b) (h2 : PP p b c) : PP p a c := by
  obtain ⟨k, hk, h⟩ := h
  obtain ⟨l, hl, h2⟩ := h2
  exact ⟨k * l, mul_nd hp hk hl, cg_trans h h2⟩
theorem PP.symm {p : Int} (hp : prB p = true) {a b : Pt} (h : PP p a b) : PP p b a := by
  obtain ⟨c, hc, ⟨x, hx⟩, ⟨y, hy⟩, ⟨z, hz⟩⟩ := h
  obtain ⟨d, hd, ⟨v, hv⟩⟩ := inv_ex hp hc
  exact ⟨d, hd, ⟨-(d * x) - v * b.1, by grind⟩, ⟨-(d * y) - v * b.2.1, by grind⟩, ⟨-(d * z) - v * b.2.2, by grind⟩⟩
theorem PP.eq {p : Int} {a b : Pt} (ha : ptB p a.1 a.2.1 a.2.2 = true) (hb : ptB p b.1 b.2.1 b.2.2 = true) (h : PP p a b) : a = b := by
  unfold ptB normB at ha hb
  simp only [Bool.and_eq_true, beq_iff_eq] at ha hb
  obtain ⟨c, hc, h0, h1, h2⟩ := h
  have := norm_uniq ha.1 (.cons h0 (.cons h1 (.cons h2 .nil))) hc ha.2.1 hb.2.1 ha.2.2 hb.2.2
  simp at this
  exact Prod.ext this.1 (Prod.ext this.2.1 this.2.2)
theorem mv_mul (x y : M9) (a : Pt) : mvP (mulZ x y) a = mvP x (mvP y a) := by
  obtain ⟨⟨a0, b, c⟩, ⟨d, e, f⟩, ⟨g, i, j⟩⟩ := x
  obtain ⟨⟨a', b', c'⟩, ⟨d', e', f'⟩, ⟨g', i', j'⟩⟩ := y
  obtain ⟨u, v, w⟩ := a
  simp only [mvP, mulZ, colM, dotI, Prod.mk.injEq]
  refine ⟨?_, ?_, ?_⟩ <;> grind
theorem mv_PP {p : Int} (hp : prB p = true) {x x' : M9} {a a' : Pt} (h : PR p x x') (h' : PP p a a') : PP p (mvP x a) (mvP x' a') := by
  obtain ⟨c, hc, h⟩ := h
  obtain ⟨d, hd, h'⟩ := h'
  obtain ⟨r1, r2, r3⟩ := cgL_rows.1 h
  exact ⟨c * d, mul_nd hp hc hd, cg_dotG r1 h', cg_dotG r2 h', cg_dotG r3 h'⟩
theorem img_PP {p : Int} {m : M9} {a : Pt} (hm : okM p m = true) (ha : ptB p a.1 a.2.1 a.2.2 = true) : PP p (imgP p m a) (mvP m a) := by
  have hp := (okM_parts hm).1
  rw [img_nrm]
  exact ⟨_, fac_nd hp (mv_nz hm ha), cg_nrm hp (mvP m a)⟩
theorem PP.refl {p : Int} (hp : prB p = true) (a : Pt) : PP p a a := ⟨1, nd_one hp, cg_refl p a⟩
theorem act_mul {p : Int} {x y : M9} {a : Pt} (hx : okM p x = true) (hy : okM p y = true) (ha : ptB p a.1 a.2.1 a.2.2 = true) : imgP p (timesM p x y) a = imgP p x (imgP p y a) := by
  have hp := (okM_parts hx).1
  have hya := img_pt hy ha
  refine PP.eq (img_pt (times_ok hx hy) ha) (img_pt hx hya) ?_
  refine (img_PP (times_ok hx hy) ha).trans hp ?_
  refine (mv_PP hp (times_pr hx hy) (PP.refl hp a)).trans hp ?_
  rw [mv_mul]
  exact ((mv_PP hp (PR.refl hp x) (img_PP hy ha)).symm hp).trans hp ((img_PP hx hya).symm hp)
theorem one_ok {p : Int} (hp : prB p = true) : okM p oneM = true := by
  rcases prB_cases hp with rfl | rfl | rfl | rfl | rfl <;> decide
theorem mv_one (a : Pt) : mvP oneM a = a := by
  obtain ⟨u, v, w⟩ := a
  simp [mvP, oneM, dotI]
theorem act_one {p : Int} {a : Pt} (ha : ptB p a.1 a.2.1 a.2.2 = true) : imgP p oneM a = a := by
  have hp : prB p = true := by unfold ptB at ha; simp only [Bool.and_eq_true] at ha; exact ha.1
  refine PP.eq (img_pt (one_ok hp) ha) ha ?_
  have := img_PP (one_ok hp) ha
  rwa [mv_one] at this
theorem mul_one (x : M9) : mulZ x oneM = x ∧ mulZ oneM x = x := by
  obtain ⟨⟨a, b, c⟩, ⟨d, e, f⟩, ⟨g, i, j⟩⟩ := x
  constructor <;> simp [mulZ, oneM, colM, dotI]
theorem times_one {p : Int} {x : M9} (hx : okM p x = true) : timesM p x oneM = x ∧ timesM p oneM x = x := by
  have hp := (okM_parts hx).1
  have h1 := times_pr hx (one_ok hp)
  have h2 := times_pr (one_ok hp) hx
  rw [(mul_one x).1] at h1
  rw [(mul_one x).2] at h2
  exact ⟨PR.eq (times_ok hx (one_ok hp)) hx h1, PR.eq (times_ok (one_ok hp) hx) hx h2⟩
/-- The list of a group's maps as the closure of a list. -/
def fA (p : Int) (ms : List M9) (k : Nat) (x : M9) : M9 := timesM p x (ms.getD k m0)
theorem innA_O (p : Int) (ms A : List M9) (x : M9) : ∀ k, innA p ms A x k = innO (fA p ms) A x k
  | 0 => rfl
  | k + 1 => by
    show stepA p (innA p ms A x k) x (ms.getD k m0) = stepO (innO (fA p ms) A x k) (fA p ms k x)
    rw [innA_O p ms A x k]
    unfold stepA stepO fA
    by_cases h : timesM p x (ms.getD k m0) ∈ innO (fun k x => timesM p x (ms.getD k m0)) A x k
    · rw [if_pos h, if_pos h]
    · rw [if_neg h, if_neg h]
theorem seqA_O (p : Int) (ms : List M9) : ∀ i, seqA p ms i = seqO (fA p ms) ms.length m0 oneM i
  | 0 => rfl
  | i + 1 => by
    show innA p ms (seqA p ms i) ((seqA p ms i).getD i m0) ms.length = innO (fA p ms) _ _ ms.length
    rw [innA_O, seqA_O p ms i]
def WholeA (p : Int) (ms : List M9) (K : Nat) : Prop := GoodA p ms K ∧ (seqA p ms K).length = K
theorem WholeA.o {p : Int} {ms : List M9} {K : Nat} (h : WholeA p ms K) : WholeO (fA p ms) ms.length m0 oneM K :=
  ⟨fun i hi => by rw [← seqA_O]; exact (h.1 i hi).1, by rw [← seqA_O]; exact h.2⟩
variable {n : Nat} {ms : List M9} {K : Nat}
theorem grp_ind (h : WholeA n ms K) {P : M9 → Prop} (h1 : P oneM) (hs : ∀ g, P g → ∀ k, k < ms.length → P (timesM n g (ms.getD k m0))) : ∀ g ∈ seqA n ms K, P g := by
  rw [seqA_O]
  exact h.o.all (P := P) h1 (fun x hx k hk => hs x hx k hk)
theorem grp_ok (hm : MsOk n ms) (h : WholeA n ms K) : ∀ g ∈ seqA n ms K, okM n g = true :=
  grp_ind h (one_ok hm.pr) (fun g hg k hk => times_ok hg (hm.ok _ (getM_mem hk)))
theorem grp_right (h : WholeA n ms K) {g : M9} (hg : g ∈ seqA n ms K) {k : Nat} (hk : k < ms.length) : timesM n g (ms.getD k m0) ∈ seqA n ms K := by
  rw [seqA_O] at hg ⊢
  exact h.o.closed hg hk
theorem grp_one (h : WholeA n ms K) : oneM ∈ seqA n ms K := by rw [seqA_O]; exact h.o.self
theorem grp_left (hm : MsOk n ms) (h : WholeA n ms K) {k : Nat} (hk : k < ms.length) : ∀ g ∈ seqA n ms K, timesM n (ms.getD k m0) g ∈ seqA n ms K := by
  have hmk := hm.ok _ (getM_mem hk)
  have := grp_ind h (P := fun g => okM n g = true ∧ timesM n (ms.getD k m0) g ∈ seqA n ms K) ⟨one_ok hm.pr, by
    have h1 := grp_right h (grp_one h) hk
    rw [(times_one hmk).2] at h1
    rw [(times_one hmk).1]; exact h1⟩ (fun g hg j hj => by
    have hmj := hm.ok _ (getM_mem hj)
    refine ⟨times_ok hg.1 hmj, ?_⟩
    rw [← times_assoc hmk hg.1 hmj]
    exact grp_right h hg.2 hj)
  exact fun g hg => (this g hg).2
theorem grp_nodup (n : Nat) (ms : List M9) (K : Nat) : (seqA n ms K).Nodup := by rw [seqA_O]; exact seqO_nodup _ _ _ _ _
theorem grp_reach (hm : MsOk n ms) (h : WholeA n ms K) : ∀ g ∈ seqA n ms K, ∀ a ∈ allP n, Reach0 (fO n ms) ms.length p0 a (imgP n g a) := by
  have := grp_ind h (P := fun g => okM n g = true ∧ ∀ a ∈ allP n, Reach0 (fO n ms) ms.length p0 a (imgP n g a)) ⟨one_ok hm.pr, fun a ha => by
    rw [act_one (allP_pt hm.pr ha)]; exact reach_refl hm.fin ha⟩ (fun g hg k hk => by
    have hmk := hm.ok _ (getM_mem hk)
    refine ⟨times_ok hg.1 hmk, fun a ha => ?_⟩
    rw [act_mul hg.1 hmk (allP_pt hm.pr ha)]
    have h2 := hg.2 _ (hm.fin a ha k hk)
    exact reach_trans hm.fin (reach_step hm.fin ha hk) h2)
  exact fun g hg => (this g hg).2
/-- A list's elements, counted by what a function makes of them. -/
theorem count_fib {α β : Type} [DecidableEq β] (φ : α → β) (O : List β) (hO : O.Nodup) : ∀ (G : List α), (∀ g ∈ G, φ g ∈ O) → G.length = (O.map fun y => (G.filter fun g => decide (φ g = y)).length).sum
  | [], _ => by
    show 0 = (O.map fun y => 0).sum
    clear hO
    induction O with
    | nil => rfl
    | cons y O ih => rw [List.map_cons, List.sum_cons, ← ih (fun g hg => absurd hg (by simp))]
  | g :: G, h => by
    have ih := count_fib φ O hO G (fun x hx => h x (List.mem_cons_of_mem _ hx))
    have hg := h g List.mem_cons_self
    have key : ∀ (O : List β), O.Nodup → (O.map fun y => ((g :: G).filter fun g => decide (φ g = y)).length).sum = (O.map fun y => (G.filter fun g => decide (φ g = y)).length).sum + (if φ g ∈ O then 1 else 0) := by
      intro O hO
      induction O with
      | nil => simp
      | cons y O ih2 =>
        have h2 := List.nodup_cons.1 hO
        rw [List.map_cons, List.sum_cons, List.map_cons, List.sum_cons, ih2 h2.2]
        by_cases e : φ g = y
        · have hn : φ g ∉ O := e ▸ h2.1
          rw [List.filter_cons, if_pos (by simpa using e), if_neg hn, if_pos (by rw [e]; exact List.mem_cons_self)]
          simp only [List.length_cons]; omega
        · rw [List.filter_cons, if_neg (by simpa using e)]
          by_cases hm : φ g ∈ O
          · rw [if_pos hm, if_pos (List.mem_cons_of_mem _ hm)]; omega
          · rw [if_neg hm, if_neg (by simp [e, hm])]; omega
    rw [key O hO, if_pos hg, ← ih]
    rfl
theorem sum_const {β : Type} (f : β → Nat) (s : Nat) : ∀ (O : List β), (∀ y ∈ O, f y = s) → (O.map f).sum = O.length * s
  | [], _ => by simp
  | y :: O, h => by
    rw [List.map_cons, List.sum_cons, sum_const f s O (fun z hz => h z (List.mem_cons_of_mem _ hz)), h y List.mem_cons_self, List.length_cons, Nat.succ_mul]
    omega
/-- An orbit's length divides the order of the group. -/
theorem orbit_dvd (hm : MsOk n ms) (h : WholeA n ms K) {a : Pt} (ha : a ∈ allP n) {J : Nat} (hJ : WholeP n ms a J) : (seqP n ms a J).length ∣ K := by
  have hS := seqP_nodup n ms a J
  have hin : ∀ y ∈ seqP n ms a J, y ∈ allP n := hJ.all (P := (· ∈ allP n)) ha hm.fin
  have hφ : ∀ g ∈ seqA n ms K, imgP n g a ∈ seqP n ms a J := fun g hg => by
    obtain ⟨J2, h2, h3⟩ := grp_reach hm h g hg a ha
    obtain rfl := WholeO.uniq hJ h2
    exact h3
  have hc := count_fib (fun g => imgP n g a) (seqP n ms a J) hS (seqA n ms K) hφ
  have hle : ∀ y ∈ seqP n ms a J, ∀ z ∈ seqP n ms a J, ((seqA n ms K).filter fun g => decide (imgP n g a = y)).length ≤ ((seqA n ms K).filter fun g => decide (imgP n g a = z)).length := by
    intro y hy z hz
    have hr : Reach0 (fO n ms) ms.length p0 y z := reach_trans hm.fin (reach_symm hm.fin hm.inj ha ⟨J, hJ, hy⟩) ⟨J, hJ, hz⟩
    refine (hr.least (T := fun z => z ∈ allP n ∧ ((seqA n ms K).filter fun g => decide (imgP n g a = y)).length ≤ ((seqA n ms K).filter fun g => decide (imgP n g a = z)).length) ⟨hin y hy, Nat.le_refl _⟩ (fun z hz k hk => ⟨hm.fin z hz.1 k hk, Nat.le_trans hz.2 ?_⟩)).2
    have hmk := hm.ok _ (getM_mem hk)
    have hmap : (((seqA n ms K).filter fun g => decide (imgP n g a = z)).map (timesM n (ms.getD k m0))).Nodup := by
      have hnd : ((seqA n ms K).filter fun g => decide (imgP n g a = z)).Nodup := (grp_nodup n ms K).sublist List.filter_sublist
      have hok : ∀ g ∈ (seqA n ms K).filter fun g => decide (imgP n g a = z), okM n g = true := fun g hg => grp_ok hm h g (List.mem_filter.1 hg).1
      generalize ((seqA n ms K).filter fun g => decide (imgP n g a = z)) = F at hnd hok
      induction F with
      | nil => simp
      | cons g F ih =>
        rw [List.map_cons, List.nodup_cons]
        have h2 := List.nodup_cons.1 hnd
        refine ⟨fun hmem => ?_, ih h2.2 (fun x hx => hok x (List.mem_cons_of_mem _ hx))⟩
        obtain ⟨g2, hg2, e⟩ := List.mem_map.1 hmem
        have := times_cancel hmk (hok g2 (List.mem_cons_of_mem _ hg2)) (hok g List.mem_cons_self) e
        exact h2.1 (this ▸ hg2)
    have := nodup_len hmap (l2 := (seqA n ms K).filter fun g => decide (imgP n g a = fO n ms k z)) (fun x hx => by
      obtain ⟨g, hg, rfl⟩ := List.mem_map.1 hx
      obtain ⟨hgG, hgz⟩ := List.mem_filter.1 hg
      refine List.mem_filter.2 ⟨grp_left hm h hk g hgG, ?_⟩
      rw [decide_eq_true_iff, act_mul hmk (grp_ok hm h g hgG) (allP_pt hm.pr ha), of_decide_eq_true hgz]
      rfl)
    rw [List.length_map] at this
    exact this
  have hself : a ∈ seqP n ms a J := hJ.self
  rw [sum_const _ (((seqA n ms K).filter fun g => decide (imgP n g a = a)).length) (seqP n ms a J) (fun y hy => Nat.le_antisymm (hle y hy a hself) (hle a hself y hy)), h.2] at hc
  exact ⟨_, hc⟩
end Go.Proofs.Ytnpmdchphaenaaa
/- Plain: the orbits' lengths: they add up to all points, each divides the order of the group. -/
namespace Go.Proofs.Ytnpmdchphaenaaa
open Go.RowKit
set_option linter.unusedVariables false
set_option linter.unusedSimpArgs false
theorem filtP_count (cls : Nat → Nat) (L : List Pt) (i : Nat) : ∀ k, (filtP cls L i k).length = (List.range k).countP fun q => decide (cls q = i)
  | 0 => rfl
  | k + 1 => by
    rw [List.range_succ, List.countP_append]
    by_cases h : cls k = i
    · rw [filtP_yes h rfl, List.length_append, filtP_count cls L i k]; simp [h]
    · rw [filtP_no h, filtP_count cls L i k]; simp [h]
theorem count_less (cls : Nat → Nat) (i : Nat) : ∀ l : List Nat, l.countP (fun q => decide (cls q < i + 1)) = l.countP (fun q => decide (cls q < i)) + l.countP (fun q => decide (cls q = i))
  | [] => rfl
  | q :: l => by
    rw [List.countP_cons, List.countP_cons, List.countP_cons, count_less cls i l]
    rcases Nat.lt_trichotomy (cls q) i with h | h | h
    · have h1 : cls q < i + 1 := by omega
      have h2 : ¬ cls q = i := by omega
      simp [h, h1, h2]; omega
    · have h1 : cls q < i + 1 := by omega
      have h2 : ¬ cls q < i := by omega
      simp [h, h1, h2]; omega
    · have h1 : ¬ cls q < i + 1 := by omega
      have h2 : ¬ cls q < i := by omega
      have h3 : ¬ cls q = i := by omega
      simp [h1, h2, h3]
theorem tabL_sum (cls : Nat → Nat) (L : List Pt) (N : Nat) : ∀ i, ((tabL cls L N i).map List.length).sum = (List.range N).countP fun q => decide (cls q < i)
  | 0 => by simp [tabL]
  | i + 1 => by
    rw [count_less, ← tabL_sum cls L N i, ← filtP_count cls L]
    by_cases h : 0 < (filtP cls L i N).length
    · rw [tabL_yes rfl h]; simp
    · rw [tabL_no rfl h]; omega
theorem tab_total {cls : Nat → Nat} {L : List Pt} {N : Nat} (h : ∀ q, cls q ≤ q) : ((tabL cls L N N).map List.length).sum = N := by
  rw [tabL_sum, List.countP_eq_length.2 (fun q hq => ?_), List.length_range]
  have := h q
  have := List.mem_range.1 hq
  rw [decide_eq_true_iff]; omega
theorem tabL_pos {cls : Nat → Nat} {L l : List _} {N : Nat} : ∀ {i}, l ∈ tabL cls L N i → 0 < l.length
  | 0, h => by simp [tabL] at h
  | i + 1, h => by
    by_cases hp : 0 < (filtP cls L i N).length
    · rw [tabL_yes rfl hp] at h
      rcases List.mem_append.1 h with h | h
      · exact tabL_pos h
      · rw [List.mem_singleton.1 h]; exact hp
    · rw [tabL_no rfl hp] at h
      exact tabL_pos h
theorem filtP_nodup {cls : Nat → Nat} {L : List Pt} {i : Nat} (hL : L.Nodup) : ∀ k, k ≤ L.length → (filtP cls L i k).Nodup
  | 0, _ => List.nodup_nil
  | k + 1, hk => by
    by_cases h : cls k = i
    · rw [filtP_yes h rfl, List.nodup_append]
      refine ⟨filtP_nodup hL k (by omega), by simp, fun a ha b hb => ?_⟩
      rw [List.mem_singleton.1 hb]
      rintro rfl
      obtain ⟨q, hq, -, e⟩ := filtP_mem.1 ha
      have h1 := (place_of hL (show q < L.length by omega) rfl).2
      have h2 := (place_of hL (show k < L.length by omega) rfl).2
      rw [e] at h1
      omega
    · rw [filtP_no h]; exact filtP_nodup hL k (by omega)
theorem tab_dvd {n K : Nat} {ms : List M9} (hm : MsOk n ms) (h : WholeA n ms K) {l : List Pt} (hl : l ∈ tabL (classP n ms) (allP n) (allP n).length (allP n).length) : l.length ∣ K := by
  have hnd := nodup_allP hm.pr
  have hpos := tabL_pos hl
  obtain ⟨c, -, rfl⟩ := tabL_mem hl
  obtain ⟨x, hx⟩ := List.exists_mem_of_length_pos hpos
  obtain ⟨q, hq, hc, rfl⟩ := filtP_mem.1 hx
  have hxa := getD_mem (d := p0) hq
  obtain ⟨J, hJ⟩ := whole_P hm hxa
  have hd := orbit_dvd hm h hxa hJ
  have hin : ∀ y ∈ seqP n ms ((allP n).getD q p0) J, y ∈ allP n := hJ.all (P := (· ∈ allP n)) hxa hm.fin
  have e : (filtP (classP n ms) (allP n) c (allP n).length).length = (seqP n ms ((allP n).getD q p0) J).length := by
    refine Nat.le_antisymm (nodup_len (filtP_nodup hnd _ (Nat.le_refl _)) (fun y hy => ?_)) (nodup_len (seqP_nodup n ms _ J) (fun y hy => ?_))
    · obtain ⟨r, hr, h1, rfl⟩ := filtP_mem.1 hy
      exact (class_P hm hq hr hJ).1 (by rw [hc, h1])
    · obtain ⟨r, hr, rfl⟩ := atP_mem (hin y hy)
      refine filtP_mem.2 ⟨r, hr, ?_, rfl⟩
      rw [← hc]; exact ((class_P hm hq hr hJ).2 hy).symm
  rw [e]; exact hd
/-- Two points of one of the lists are in one orbit. -/
theorem tab_one {n K : Nat} {ms : List M9} (hm : MsOk n ms) {l : List Pt} (hl : l ∈ tabL (classP n ms) (allP n) (allP n).length (allP n).length) {x y : Pt} (hx : x ∈ l) (hy : y ∈ l) (hK : WholeP n ms x K) : y ∈ seqP n ms x K := by
  obtain ⟨c, -, rfl⟩ := tabL_mem hl
  obtain ⟨q, hq, hc, rfl⟩ := filtP_mem.1 hx
  obtain ⟨r, hr, h1, rfl⟩ := filtP_mem.1 hy
  exact (class_P hm hq hr hK).1 (by rw [hc, h1])
theorem tab_all {n : Nat} {ms : List M9} {l : List Pt} (hl : l ∈ tabL (classP n ms) (allP n) (allP n).length (allP n).length) {x : Pt} (hx : x ∈ l) : x ∈ allP n := by
  obtain ⟨c, -, rfl⟩ := tabL_mem hl
  obtain ⟨q, hq, -, rfl⟩ := filtP_mem.1 hx
  exact getD_mem hq
end Go.Proofs.Ytnpmdchphaenaaa
/- The law FnGroups: what its parts do. -- draws -/
namespace Go.Proofs.Ytnpmdchphaenaaa
open Go.RowKit
set_option linter.unusedVariables false
set_option linter.unusedSimpArgs false
/-- What a test of one orbit answers, on both sides. -/
theorem areIn_both (p : Int) (k : Nat) (l : List M9) (x y : Pt) (hk : k ≤ 1000000) : ∃ (v : Bool) (e : Int), (∀ (W : World) (b : Option Addr) (c : Nat), ListM W b k l → Calls Try.prog 13 #[.int .i64 p, .slice b k c, pV x, pV y] W (Ret W (.tuple #[.bool v, .int .i64 e]))) ∧ (∀ (W : World) (b : Option Addr) (c : Nat), ListM W b k l → Calls Try.prog 12 #[.int .i64 p, .slice b k c, pV x, pV y] W (Ret W (.tuple #[.bool v, .int .i64 e]))) := by
  obtain ⟨cd, hcd⟩ : ∃ cd, codeML p k (oksM p l && ptsB p [x, y]) = cd := ⟨_, rfl⟩
  by_cases h0 : cd = 0
  · subst h0
    obtain ⟨hp, h8, hv⟩ := codeML_ok hcd
    rw [Bool.and_eq_true] at hv
    obtain ⟨n, rfl⟩ : ∃ n : Nat, p = (n : Int) := ⟨p.toNat, by have := (prB_bd hp).1; omega⟩
    have hM : MsOk n l := ⟨hp, fun m hm => List.all_eq_true.1 hv.1 m hm⟩
    have hpts := hv.2
    have hx : x ∈ allP n := mem_allP (List.all_eq_true.1 hpts _ (by simp))
    have hy : y ∈ allP n := mem_allP (List.all_eq_true.1 hpts _ (by simp))
    obtain ⟨K, hK⟩ := whole_P hM hx
    obtain ⟨v, hv2⟩ : ∃ v, decide (y ∈ seqP n l x K) = v := ⟨_, rfl⟩
    exact ⟨v, 0, fun W b c h => AreInOneOrbit_spec_core n b k c l x y K _ W hM h8 h hx hcd hK rfl hv2, fun W b c h => AreInOneOrbit_impl_core n b k c l x y W hM h8 h hcd rfl (orb_lists hM rfl rfl hx hy hK rfl hv2)⟩
  · exact ⟨false, cd, fun W b c h => AreInOneOrbit_spec_code p b k c l x y W hk h hcd h0, fun W b c h => AreInOneOrbit_impl_code p b k c l x y W hk h hcd h0⟩
/-- What is known of the lists of orbits and of the group's order. -/
structure GrpF (p : Int) (k : Nat) (l : List M9) (Ls : List (List Pt)) (cd r e : Int) : Prop where
  len : Ls.length ≤ 183
  lens : ∀ q ∈ Ls, q.length ≤ 183
  so : ∀ (W : World) (b : Option Addr) (c : Nat), ListM W b k l → Calls Try.prog 7 #[.int .i64 p, .slice b k c] W (TabC W Ls cd)
  io : ∀ (W : World) (b : Option Addr) (c : Nat), ListM W b k l → Calls Try.prog 6 #[.int .i64 p, .slice b k c] W (TabC W Ls cd)
  sg : ∀ (W : World) (b : Option Addr) (c : Nat), ListM W b k l → Calls Try.prog 10 #[.int .i64 p, .slice b k c] W (Ret W (.tuple #[.int .i64 r, .int .i64 e]))
  ig : ∀ (W : World) (b : Option Addr) (c : Nat), ListM W b k l → Calls Try.prog 9 #[.int .i64 p, .slice b k c] W (Ret W (.tuple #[.int .i64 r, .int .i64 e]))
  bad : cd ≠ 0 → Ls = []
  good : cd = 0 → ∃ n : Nat, p = (n : Int) ∧ 3 ≤ n ∧ n ≤ 13 ∧ (∀ q ∈ Ls, 0 < q.length) ∧ (Ls.map List.length).sum = n + 1 + n * n ∧ (e = 0 → 0 ≤ r ∧ ∀ q ∈ Ls, (q.length : Int) ∣ r) ∧
    ∀ q ∈ Ls, ∀ x ∈ q, ∀ y ∈ q, ∀ (W : World) (b : Option Addr) (c : Nat), ListM W b k l → Calls Try.prog 12 #[.int .i64 p, .slice b k c, pV x, pV y] W (Ret W (.tuple #[.bool true, .int .i64 0]))
theorem grp_facts (p : Int) (k : Nat) (l : List M9) (hk : k ≤ 1000000) : ∃ (Ls : List (List Pt)) (cd r e : Int), GrpF p k l Ls cd r e := by
  obtain ⟨cd, hcd⟩ : ∃ cd, codeML p k (oksM p l && ptsB p []) = cd := ⟨_, rfl⟩
  by_cases h0 : cd = 0
  · subst h0
    obtain ⟨hp, h8, hv0⟩ := codeML_ok hcd
    have hv := hv0
    rw [Bool.and_eq_true] at hv
    obtain ⟨n, rfl⟩ : ∃ n : Nat, p = (n : Int) := ⟨p.toNat, by have := (prB_bd hp).1; omega⟩
    have hM : MsOk n l := ⟨hp, fun m hm => List.all_eq_true.1 hv.1 m hm⟩
    have hin : ∀ m ∈ l, InM m := fun m hm => okM_inM (List.all_eq_true.1 hv.1 m hm)
    obtain ⟨h3, h13⟩ := hM.n13
    obtain ⟨r, e, hr, hd⟩ : ∃ r e : Int, OutA n l r e ∧ (e = 0 → 0 ≤ r ∧ ∀ q ∈ tabL (classP n l) (allP n) (allP n).length (allP n).length, (q.length : Int) ∣ r) := by
      rcases outcome (n : Int) l with ⟨K, h1, h2⟩ | ⟨I, h1, h2, h3⟩
      · exact ⟨K, 0, .inl ⟨K, h1, h2, rfl, rfl⟩, fun _ => ⟨by omega, fun q hq => Int.natCast_dvd_natCast.2 (tab_dvd hM ⟨h1, h2⟩ hq)⟩⟩
      · exact ⟨0, 3, .inr ⟨I, h1, h2, h3, rfl, rfl⟩, fun h => absurd h (by decide)⟩
    refine ⟨tabL (classP n l) (allP n) (allP n).length (allP n).length, 0, r, e, Nat.le_trans (tabL_len _ _ _ _) (allP_len183 h13), fun q hq => ?_, fun W b c h => ?_, fun W b c h => OrbitsOf_impl_core n b k c l W hM h8 h hcd rfl,
      fun W b c h => GroupOrder_spec_core n b k c l W hp h8 h hin hcd r e hr, fun W b c h => GroupOrder_impl_core n b k c l W hp h8 h hin hcd r e hr, fun h => absurd rfl h, fun _ => ⟨n, rfl, h3, h13, fun q hq => tabL_pos hq, ?_, hd, fun q hq x hx y hy W b c h => ?_⟩⟩
    · obtain ⟨c, -, rfl⟩ := tabL_mem hq
      exact Nat.le_trans (filtP_len _ _ _ _) (allP_len183 h13)
    · exact (OrbitsOf_spec_core n _ (allP n) b k c l W hM h8 h hcd rfl rfl).mono fun e w' h => ⟨h⟩
    · exact (tab_total fun q => (classP_lab n l q).1).trans (allP_length n)
    · have hxa := tab_all hq hx
      have hya := tab_all hq hy
      obtain ⟨K, hK⟩ := whole_P hM hxa
      have hone := tab_one hM hq hx hy hK
      have hcd2 : codeML (n : Int) k (oksM (n : Int) l && ptsB (n : Int) [x, y]) = 0 := by
        have e1 : (oksM (n : Int) l && ptsB (n : Int) [x, y]) = true := by
          rw [hv.1, Bool.true_and]
          simp [ptsB, allP_pt hp hxa, allP_pt hp hya]
        rw [e1]
        rw [hv0] at hcd
        exact hcd
      exact AreInOneOrbit_impl_core n b k c l x y W hM h8 h hcd2 rfl (orb_lists hM rfl rfl hxa hya hK rfl (decide_eq_true hone))
  · exact ⟨[], cd, 0, cd, Nat.zero_le _, fun q hq => absurd hq (by simp), fun W b c h => OrbitsOf_spec_code p b k c l W hk h hcd h0, fun W b c h => OrbitsOf_impl_code p b k c l W hk h hcd h0,
      fun W b c h => GroupOrder_spec_code p b k c l W hk h hcd h0, fun W b c h => GroupOrder_impl_code p b k c l W hk h hcd h0, fun _ => rfl, fun h => absurd h h0⟩
end Go.Proofs.Ytnpmdchphaenaaa
/- Contracts: numbers that draws pick. -- draws -/
namespace Go.Proofs.Ytnpmdchphaenaaa
open Go.RowKit
set_option linter.unusedVariables false
set_option linter.unusedSimpArgs false
/-- Numbers in a block of their own. -/
structure NumK (W : World) (gl k : Nat) : Prop where
  out : ∃ cs, RowK W gl cs 2 ∧ cs.size = k ∧ ∀ i, i < k → ∃ r : Int, cs[i]? = some (.int .i64 r)
theorem NumK.link {W W' : World} {gl k : Nat} (l : Link W W') (h : NumK W gl k) : NumK W' gl k := by
  obtain ⟨cs, h1, h2⟩ := h.out
  exact ⟨cs, h1.link l, h2⟩
theorem NumK.but {g : Nat} {W W' : World} {gl k : Nat} (hB : ButK g W W') (hne : gl ≠ g) (h : NumK W gl k) : NumK W' gl k := by
  obtain ⟨cs, h1, h2⟩ := h.out
  exact ⟨cs, h1.but hB hne, h2⟩
theorem SrcK.rowNe {W : World} {g gl n c : Nat} {b : Option Addr} {cs : Array Value} {T : TypeId} (h : SrcK W g b n c) (hR : RowK W gl cs T) (hT : T ≠ 67) : gl ≠ g := by
  rintro rfl
  obtain ⟨a, x, hr, -⟩ := h.row
  have h1 := hr.out
  have h2 := hR.out
  rw [h1] at h2
  cases h2
  exact hT rfl
theorem NumK.ne {W : World} {g gl k n c : Nat} {b : Option Addr} (h : NumK W gl k) (hS : SrcK W g b n c) : gl ≠ g := by
  obtain ⟨cs, h1, -⟩ := h.out
  exact hS.rowNe h1 (by decide)
theorem Drew.tr {g n c : Nat} {b : Option Addr} {w W W' : World} (h : Drew g b n c w W) (h' : Drew g b n c W W') : Drew g b n c w W' := ⟨h'.src, h'.but.tr h.but⟩
theorem Drew.low {g n c : Nat} {b : Option Addr} {w W W' : World} (h : Drew g b n c w W) (l : LowK W W') : Drew g b n c w W' := ⟨h.src.link (LowK.lnk l), h.but.low l⟩
theorem Drew.refl {g n c : Nat} {b : Option Addr} {w : World} (h : SrcK w g b n c) : Drew g b n c w w := ⟨h, ButK.refl g w⟩
/-- A number, and the source drawn from. -/
def NumP (g : Nat) (b : Option Addr) (n c : Nat) (w : World) : Ending → World → Prop := fun e W => ∃ r : Int, e = .returned (.int .i64 r) ∧ Drew g b n c w W
set_option maxRecDepth 20000 in
set_option maxHeartbeats 8000000 in
theorem Pick_S (g : Nat) (b : Option Addr) (n c : Nat) (gl k cp : Nat) (w : World) (hS : SrcK w g b n c) (hR : NumK w gl k) (h0 : 0 < k) (hk : k ≤ 1000) :
    Calls Try.prog 66 #[.pointer (some ⟨g, 0, none⟩), .slice (some ⟨gl, 0, none⟩) k cp] w (NumP g b n c w) := by
  have hne := hR.ne hS
  go_enter Try.func66, Try.ntmps66
  go_wp2_with (first | (refine wl_loadS ?_) | (go_at_call 46; (with_reducible refine (Next_S g b n c (k : Int) _ hS (by omega)).mono ?_); rintro e w' ⟨r, rfl, hr, hS', hB⟩; have hrk : r < k := (by omega); obtain ⟨cs, h1, h2, h3⟩ := (NumK.but hB hne hR).out; obtain ⟨x, hx⟩ := h3 r hrk; have c1 := h1.cellAt hx; have HX := Lib.hid hx; clear hx h3 h2))
  (apply ret_one Try.results66; (conv => lhs; whnf); exact rfl)
  exact ⟨x, rfl, hS', hB⟩
theorem NumK.of {W : World} {gl : Nat} {cs : Array Value} (h : RowK W gl cs 2) {k : Nat} (hk : cs.size = k) (hI : ∀ i, i < k → ∃ r : Int, cs[i]? = some (.int .i64 r)) : NumK W gl k := ⟨cs, h, hk, hI⟩
theorem NumK.l4 {W : World} {gl : Nat} {a b c d : Int} (h : RowK W gl #[.int .i64 a, .int .i64 b, .int .i64 c, .int .i64 d] 2) : NumK W gl 4 := NumK.of h rfl (fun i hi => by
  rcases (show i = 0 ∨ i = 1 ∨ i = 2 ∨ i = 3 by omega) with rfl | rfl | rfl | rfl <;> exact ⟨_, rfl⟩)
theorem NumK.l6 {W : World} {gl : Nat} {a b c d e f : Int} (h : RowK W gl #[.int .i64 a, .int .i64 b, .int .i64 c, .int .i64 d, .int .i64 e, .int .i64 f] 2) : NumK W gl 6 := NumK.of h rfl (fun i hi => by
  rcases (show i = 0 ∨ i = 1 ∨ i = 2 ∨ i = 3 ∨ i = 4 ∨ i = 5 by omega) with rfl | rfl | rfl | rfl | rfl | rfl <;> exact ⟨_, rfl⟩)
theorem NumK.l8 {W : World} {gl : Nat} {a b c d e f i j : Int} (h : RowK W gl #[.int .i64 a, .int .i64 b, .int .i64 c, .int .i64 d, .int .i64 e, .int .i64 f, .int .i64 i, .int .i64 j] 2) : NumK W gl 8 := NumK.of h rfl (fun i hi => by
  rcases (show i = 0 ∨ i = 1 ∨ i = 2 ∨ i = 3 ∨ i = 4 ∨ i = 5 ∨ i = 6 ∨ i = 7 by omega) with rfl | rfl | rfl | rfl | rfl | rfl | rfl | rfl <;> exact ⟨_, rfl⟩)
set_option maxRecDepth 20000 in
set_option maxHeartbeats 8000000 in
theorem DrawPrime_S (g : Nat) (b : Option Addr) (n c : Nat) (w : World) (hS : SrcK w g b n c) : Calls Try.prog 81 #[.pointer (some ⟨g, 0, none⟩)] w (NumP g b n c w) := by
  go_enter Try.func81, Try.ntmps81
  go_wp2_with (first | (go_at_call 66; (with_reducible refine (Pick_S g b n c _ 8 _ _ (hS.link (LowK.lnk findLow)) (NumK.l8 findRow) (by decide) (by decide)).mono ?_); rintro e w' ⟨r, rfl, hD⟩))
  have hl : LowK w (w.alloc (.cells #[.int .i64 3, .int .i64 3, .int .i64 5, .int .i64 5, .int .i64 7, .int .i64 7, .int .i64 11, .int .i64 13] 2)) := findLow
  (apply ret_one Try.results81; (conv => lhs; whnf); exact rfl)
  exact ⟨r, rfl, ((Drew.refl hS).low hl).tr hD⟩
set_option maxRecDepth 20000 in
set_option maxHeartbeats 8000000 in
theorem Any_S (g : Nat) (b : Option Addr) (n c : Nat) (w : World) (hS : SrcK w g b n c) : Calls Try.prog 67 #[.pointer (some ⟨g, 0, none⟩)] w (NumP g b n c w) := by
  go_enter Try.func67, Try.ntmps67
  go_wp2_with (first
    | (go_at_call 46; (with_reducible refine (Next_S g b n c 30 _ hS (by decide)).mono ?_); rintro e w' ⟨r, rfl, hr, hD⟩)
    | (go_at_call 66; (with_reducible refine (Pick_S g b n c _ 6 _ _ (hD.src.link (LowK.lnk findLow)) (NumK.l6 findRow) (by decide) (by decide)).mono ?_); rintro e w2 ⟨r2, rfl, hD2⟩)
    | (go_at_call 81; (with_reducible refine (DrawPrime_S g b n c _ hD.src).mono ?_); rintro e w2 ⟨r2, rfl, hD2⟩))
  · have hl : LowK w' (w'.alloc (.cells #[.int .i64 0, .int .i64 2, .int .i64 4, .int .i64 9, .int .i64 17, .int .i64 (-3)] 2)) := findLow
    (apply ret_one Try.results67; (conv => lhs; whnf); exact rfl)
    exact ⟨r2, rfl, (hD.low hl).tr hD2⟩
  · (apply ret_one Try.results67; (conv => lhs; whnf); exact rfl)
    exact ⟨r2, rfl, hD.tr hD2⟩
set_option maxRecDepth 20000 in
set_option maxHeartbeats 8000000 in
theorem Few_S (g : Nat) (b : Option Addr) (n c : Nat) (w : World) (hS : SrcK w g b n c) : Calls Try.prog 44 #[.pointer (some ⟨g, 0, none⟩)] w (NumP g b n c w) := by
  have tok : True := trivial
  go_enter Try.func44, Try.ntmps44
  go_wp2_with (first
    | (go_at_call 67; (with_reducible refine (Any_S g b n c _ hS).mono ?_); rintro e w' ⟨r, rfl, hD⟩; have hl : LowK w' (w'.alloc (.cells #[.int .i64 3, .int .i64 5, .int .i64 7, .int .i64 r] 2)) := findLow)
    | (have _t := tok; go_at_call 66; (with_reducible refine (Pick_S g b n c _ 4 _ _ (hD.low hl).src (NumK.l4 findRow) (by decide) (by decide)).mono ?_); rintro e w2 ⟨r2, rfl, hD2⟩; clear tok; have hl2 : LowK w2 (w2.alloc (.cells #[.int .i64 3, .int .i64 3, .int .i64 3, .int .i64 5, .int .i64 5, .int .i64 r2] 2)) := findLow)
    | (go_at_call 66; (with_reducible refine (Pick_S g b n c _ 6 _ _ (hD2.low hl2).src (NumK.l6 findRow) (by decide) (by decide)).mono ?_); rintro e w3 ⟨r3, rfl, hD3⟩))
  (apply ret_one Try.results44; (conv => lhs; whnf); exact rfl)
  exact ⟨r3, rfl, (((hD.low hl).tr hD2).low hl2).tr hD3⟩
set_option maxRecDepth 20000 in
set_option maxHeartbeats 8000000 in
theorem Fine_S (p : Int) (w : World) : Calls Try.prog 28 #[.int .i64 p] w (fun e W => ∃ q : Int, e = .returned (.int .i64 q) ∧ prB q = true ∧ LowK w W) := by
  obtain ⟨v, hv⟩ : ∃ v, prB p = v := ⟨_, rfl⟩
  have HV := Lib.hid hv
  rcases v with _ | _
  · go_enter Try.func28, Try.ntmps28
    go_wp2_with (first | (refine wl_loadS ?_) | (refine wl_load ?_) | (refine wl_storeS ?_) | (refine wl_store ?_) | (refine wl_build ?_) | (refine wl_slice ?_) | (refine wl_append ?_; intro v' w' ho hg hb; have hs := hg.size; (try simp at hs); (try rw [ptCs_end] at ho); (try rw [ints_end] at ho); (try simp only [Nat.zero_add, Nat.reduceAdd, List.nil_append, List.cons_append] at ho)) | (go_at_call 49; (with_reducible refine (l01Prime_no p _ HV.out).mono ?_); rintro e w' ⟨rfl, rfl⟩))
    (apply ret_one Try.results28; (conv => lhs; whnf); exact rfl)
    exact ⟨5, rfl, rfl, findLow⟩
  · go_enter Try.func28, Try.ntmps28
    go_wp2_with (first | (refine wl_loadS ?_) | (refine wl_load ?_) | (refine wl_storeS ?_) | (refine wl_store ?_) | (refine wl_build ?_) | (refine wl_slice ?_) | (refine wl_append ?_; intro v' w' ho hg hb; have hs := hg.size; (try simp at hs); (try rw [ptCs_end] at ho); (try rw [ints_end] at ho); (try simp only [Nat.zero_add, Nat.reduceAdd, List.nil_append, List.cons_append] at ho)) | (go_at_call 49; (with_reducible refine (l01Prime_yes p _ HV.out).mono ?_); rintro e w' ⟨rfl, rfl⟩))
    (apply ret_one Try.results28; (conv => lhs; whnf); exact rfl)
    exact ⟨p, rfl, HV.out, findLow⟩
end Go.Proofs.Ytnpmdchphaenaaa
/- Contracts: the source of a code. -- draws -/
namespace Go.Proofs.Ytnpmdchphaenaaa
open Go.RowKit
set_option linter.unusedVariables false
set_option linter.unusedSimpArgs false
theorem wl_buildS {ops : Array Oper} {rest : List Oper} {o : Oper} {a : Act} {w : World} {Q : Exit → Act → World → Prop} {x y : Operand} {b : Option Addr} {n c : Nat} {h : Int} (hK : wpList Try.prog ops Q rest (a.put o.dst (.agg #[.slice b n c, .int .i64 0, .int .u64 h])) w) (hgd : o.guard = none := by exact rfl) (hop : o.op = .build 67 #[(0, x), (2, y)] := by exact rfl)
    (hx : a.eval x = .slice b n c := by exact rfl) (hy : a.eval y = .int .u64 h := by exact rfl) : wpList Try.prog ops Q (o :: rest) a w :=
  wpList_build w hgd _ _ hop _ ((show Program.built Try.prog 67 (#[(0, x), (2, y)].map fun ((i, x) : Nat × Operand) => (i, a.eval x)).toList = Program.built Try.prog 67 [(0, .slice b n c), (2, .int .u64 h)] from by simp [hx, hy]).trans (show Program.built Try.prog 67 [(0, .slice b n c), (2, .int .u64 h)] = some #[.slice b n c, .int .i64 0, .int .u64 h] by kernel_rfl)) hK
set_option pp.deepTerms false
set_option pp.deepTerms.threshold 10
set_option maxRecDepth 20000 in
set_option maxHeartbeats 8000000 in
theorem From_S (b : Option Addr) (n c : Nat) (w : World) (hC : CodeK w b n) (hn : n ≤ 4096) (hb : ∀ a, b = some a → a.block < w.heap.size) :
    Calls Try.prog 26 #[.slice b n c] w (fun e W => ∃ g, e = .returned (.pointer (some ⟨g, 0, none⟩)) ∧ w.heap.size ≤ g ∧ SrcK W g b n c ∧ LowK w W) := by
  have HB := Lib.hid hb
  clear hb
  go_enter Try.func26, Try.ntmps26
  go_wp2_with (first | (refine wl_buildS ?_))
  have hr0 : RowK (w.alloc (.cells #[.slice b n c, .int .i64 0, .int .u64 (13101 + (n : Int))] 67)) w.heap.size #[.slice b n c, .int .i64 0, .int .u64 (13101 + (n : Int))] 67 := findRow
  have hV0 : LowK w (w.alloc (.cells #[.slice b n c, .int .i64 0, .int .u64 (13101 + (n : Int))] 67)) := findLow
  generalize w.alloc (.cells #[.slice b n c, .int .i64 0, .int .u64 (13101 + (n : Int))] 67) = W1 at *
  obtain ⟨g, hg⟩ : ∃ g, w.heap.size = g := ⟨_, rfl⟩
  have hwg := Nat.le_of_eq hg
  have hgw := Nat.le_of_eq hg.symm
  rw [hg] at hr0 HB ⊢
  clear hg
  go_loopw [4] (fun iv wr => ∃ (i : Nat) (h : Int), i ≤ n ∧ iv = .int .i64 (i : Int) ∧ RowK wr g #[.slice b n c, .int .i64 0, .int .u64 h] 67 ∧ 0 ≤ h ∧ h < 18446744073709551616 ∧ LowK w wr) (fun iv wr => n - (intOf iv).toNat)
  case atStart => exact ⟨0, _, Nat.zero_le _, rfl, hr0, by omega, by omega, hV0⟩
  case round =>
    clear hr0 hV0
    obtain ⟨i, h, hi, rfl, hr, h0, h1, hV⟩ := hrel
    by_cases hlt : i < n
    · have hi4 : (i : Int) < 4096 := by omega
      obtain ⟨gb, o, rfl, hc⟩ := (hC.link (LowK.lnk hV)) (by omega)
      obtain ⟨x, hx, hx0, hx1⟩ := hc i hlt
      have c3 : CellK wr gb (o + i) (.int .u8 x) := ⟨hx⟩
      have c2 : CellK wr g 2 (.int .u64 h) := hr.cellAt rfl
      have s2 : StK wr g 2 := hr.stAt (by show 2 < 3; decide)
      have HX := Lib.hid hx
      clear hc hx
      go_wp2_with (first | (with_reducible refine hold (p := wpList _ _ _ ({ dst := none, op := .store _ _ _, type := _, pos := _, after := _, guard := _ } :: _) _ _) ?_) | (refine wl_loadS ?_) | ((with_reducible apply region_gd (id := 5)); refine region_QA (id := 5) 15 ?_; apply Exists.intro; refine ⟨fun G => ?_, fun W hl => ?_⟩; (· (simp only [List.take_succ_cons, List.take_zero]; (repeat (first | go_big_quiet_skip | (go_big_quiet_want; first | (refine q_loadS ?_; simp only [Act.put, List.setIfInBounds_toArray, List.set_cons_zero, List.set_cons_succ]; go_big_quiet_on) | (refine q_load ?_; simp only [Act.put, List.setIfInBounds_toArray, List.set_cons_zero, List.set_cons_succ]; go_big_quiet_on) | (go_big_quiet_op; first | go_big_quiet_on)))); exact rfl)); have hs := hl.out.size; (try simp at hs); simp only [List.drop_succ_cons, List.drop_zero]))
      unfold Hold
      refine wl_storeS ?_
      have hE := wrapU (IntKind.wrap .u64 (IntKind.wrap .u64 (h * 1099511628211) + x) + 127)
      generalize IntKind.wrap .u64 (IntKind.wrap .u64 (IntKind.wrap .u64 (h * 1099511628211) + x) + 127) = E at *
      have hlow : LowK wr W := findLow
      have hr2 : RowK (W.setCell ⟨g, 2, none⟩ (.int .u64 E)) g #[.slice (some ⟨gb, o, none⟩) n c, .int .i64 0, .int .u64 E] 67 := (hr.link (LowK.lnk hlow)).setC (k := 2) (.int .u64 E)
      have hV2 : LowK w (W.setCell ⟨g, 2, none⟩ (.int .u64 E)) := LowK.setCell hwg 2 _ (LowK.link (LowK.lnk hlow) hV)
      go_wp2
      go_roundw
      case rel => exact ⟨i + 1, E, by omega, by go_num, hr2, hE.1, hE.2, hV2⟩
      case measure => (simp [intOf]; try omega)
    · obtain rfl : n = i := by omega
      go_wp2
      (apply ret_one Try.results26; (conv => lhs; whnf); exact rfl)
      exact ⟨g, rfl, hwg, ⟨⟨0, h, hr, Nat.zero_le _, h0, h1⟩, hC.link (LowK.lnk hV), fun a ha => by have := HB.out a ha; omega, hn⟩, hV⟩
end Go.Proofs.Ytnpmdchphaenaaa
/- Contracts: maps that draws make. -- draws -/
namespace Go.Proofs.Ytnpmdchphaenaaa
open Go.RowKit
set_option linter.unusedVariables false
set_option linter.unusedSimpArgs false
/-- A block of nine numbers of a kind. -/
structure MapP (P : Int → Prop) (W : World) (g : Nat) : Prop where
  out : ∃ cs, RowK W g cs 47 ∧ cs.size = 9 ∧ ∀ k, k < 9 → ∃ r, cs[k]? = some (.int .i64 r) ∧ P r
theorem MapP.link {P : Int → Prop} {W W' : World} {g : Nat} (l : Link W W') (h : MapP P W g) : MapP P W' g := by
  obtain ⟨cs, h1, h2⟩ := h.out
  exact ⟨cs, h1.link l, h2⟩
theorem MapP.set {P : Int → Prop} {W : World} {g k : Nat} {r : Int} (h : MapP P W g) (hk : k < 9) (hr : P r) : MapP P (W.setCell ⟨g, k, none⟩ (.int .i64 r)) g := by
  obtain ⟨cs, h1, h2, h3⟩ := h.out
  refine ⟨cs.setIfInBounds k (.int .i64 r), h1.setC _, by simpa using h2, fun j hj => ?_⟩
  by_cases e : k = j
  · subst e
    exact ⟨r, by simp [h2, hk], hr⟩
  · obtain ⟨x, hx, hp⟩ := h3 j hj
    exact ⟨x, by rw [Array.getElem?_setIfInBounds_ne e]; exact hx, hp⟩
theorem MapP.get {P : Int → Prop} {W : World} {g : Nat} (h : MapP P W g) : ∃ t : M9, RowK W g (mC t) 47 ∧ ∀ x ∈ listM t, P x := by
  obtain ⟨cs, h1, h2, h3⟩ := h.out
  obtain ⟨r0, e0, p0⟩ := h3 0 (by decide)
  obtain ⟨r1, e1, p1⟩ := h3 1 (by decide)
  obtain ⟨r2, e2, p2⟩ := h3 2 (by decide)
  obtain ⟨r3, e3, p3⟩ := h3 3 (by decide)
  obtain ⟨r4, e4, p4⟩ := h3 4 (by decide)
  obtain ⟨r5, e5, p5⟩ := h3 5 (by decide)
  obtain ⟨r6, e6, p6⟩ := h3 6 (by decide)
  obtain ⟨r7, e7, p7⟩ := h3 7 (by decide)
  obtain ⟨r8, e8, p8⟩ := h3 8 (by decide)
  have e : cs = mC ((r0, r1, r2), (r3, r4, r5), (r6, r7, r8)) := by
    apply Array.ext_getElem?
    intro i
    by_cases hi : i < 9
    · rcases (show i = 0 ∨ i = 1 ∨ i = 2 ∨ i = 3 ∨ i = 4 ∨ i = 5 ∨ i = 6 ∨ i = 7 ∨ i = 8 by omega) with rfl | rfl | rfl | rfl | rfl | rfl | rfl | rfl | rfl
      · rw [e0]; rfl
      · rw [e1]; rfl
      · rw [e2]; rfl
      · rw [e3]; rfl
      · rw [e4]; rfl
      · rw [e5]; rfl
      · rw [e6]; rfl
      · rw [e7]; rfl
      · rw [e8]; rfl
    · rw [Array.getElem?_eq_none (by omega), Array.getElem?_eq_none (by show 9 ≤ i; omega)]
  rw [e] at h1
  refine ⟨_, h1, fun x hx => ?_⟩
  simp only [listM, List.mem_cons, List.not_mem_nil, or_false] at hx
  rcases hx with rfl | rfl | rfl | rfl | rfl | rfl | rfl | rfl | rfl <;> assumption
theorem MapP.of {P : Int → Prop} {W : World} {g : Nat} {t : M9} (h : RowK W g (mC t) 47) (hp : ∀ x ∈ listM t, P x) : MapP P W g := by
  refine ⟨mC t, h, rfl, fun k hk => ?_⟩
  rcases (show k = 0 ∨ k = 1 ∨ k = 2 ∨ k = 3 ∨ k = 4 ∨ k = 5 ∨ k = 6 ∨ k = 7 ∨ k = 8 by omega) with rfl | rfl | rfl | rfl | rfl | rfl | rfl | rfl | rfl <;> exact ⟨_, rfl, hp _ (by simp [listM])⟩
theorem MapP.st {P : Int → Prop} {W : World} {g k : Nat} (h : MapP P W g) (hk : k < 9) : StK W g k := by
  obtain ⟨cs, h1, h2, -⟩ := h.out
  exact h1.stAt (by omega)
theorem MapP.but {P : Int → Prop} {g : Nat} {W W' : World} {gl : Nat} (hB : ButK g W W') (hne : gl ≠ g) (h : MapP P W gl) : MapP P W' gl := by
  obtain ⟨cs, h1, h2⟩ := h.out
  exact ⟨cs, h1.but hB hne, h2⟩
theorem MapP.ne {P : Int → Prop} {g gl n c : Nat} {b : Option Addr} {W : World} (h : MapP P W gl) (hS : SrcK W g b n c) : gl ≠ g := by
  obtain ⟨cs, h1, -⟩ := h.out
  exact hS.rowNe h1 (by decide)
theorem Mod_W (p n : Int) (w : World) (hp : prB p = true) : Calls Try.prog 68 #[.int .i64 p, .int .i64 n] w (Ret w (.int .i64 (n % p))) := by
  have hpb := prB_bd hp
  have hb := tmod_lo n p (by omega)
  have e : IntKind.i64.wrap (n.tmod p + p) = n.tmod p + p := IntWalk.i64_in _ (by omega)
  have hq : 0 ≤ (n.tmod p + p).tmod p ∧ (n.tmod p + p).tmod p < p := ⟨Int.tmod_nonneg p (by omega), Int.tmod_lt_of_pos _ (by omega)⟩
  have hp0 : p ≠ 0 := by omega
  go_enter Try.func68, Try.ntmps68
  go_wp2
  go_ret
  exact ⟨ret_int (mod_is' n p (by omega)), Below.refl _ _⟩
theorem wl_buildZ {ops : Array Oper} {rest : List Oper} {o : Oper} {a : Act} {w : World} {Q : Exit → Act → World → Prop} (hK : wpList Try.prog ops Q rest (a.put o.dst (.agg (mC m0))) w) (hgd : o.guard = none := by exact rfl) (hop : o.op = .build 47 #[] := by exact rfl) : wpList Try.prog ops Q (o :: rest) a w :=
  wpList_build w hgd _ _ hop _ ((show Program.built Try.prog 47 ((#[] : Array (Nat × Operand)).map fun ((i, x) : Nat × Operand) => (i, a.eval x)).toList = Program.built Try.prog 47 [] from by simp).trans (show Program.built Try.prog 47 [] = some (mC m0) by kernel_rfl)) hK
theorem normal_E (p : Int) (m : M9) (w : World) (hp : prB p = true) (hm : InM m) : Calls Try.prog 43 #[.int .i64 p, mV m] w (Ret w (mV (normM p m))) :=
  l02Normal_any p m.1.1 m.1.2.1 m.1.2.2 m.2.1.1 m.2.1.2.1 m.2.1.2.2 m.2.2.1 m.2.2.2.1 m.2.2.2.2 w hp (fun x hx => big12 (hm x hx)) _ rfl
theorem inM_norm {p : Int} {m : M9} (hp : prB p = true) : InM (normM p m) := by
  intro z hz
  simp only [normM, scaP, listM, List.mem_cons, List.not_mem_nil, or_false] at hz
  rcases hz with rfl | rfl | rfl | rfl | rfl | rfl | rfl | rfl | rfl <;> exact in12_mod hp
set_option pp.deepTerms false
set_option pp.deepTerms.threshold 10
set_option maxRecDepth 20000 in
set_option maxHeartbeats 16000000 in
theorem Inverse_E (p : Int) (m : M9) (w : World) (hp : prB p = true) (hm : InM m) : Calls Try.prog 48 #[.int .i64 p, mV m] w (fun e W => ∃ t, e = .returned (mV t) ∧ InM t ∧ LowK w W) := by
  go_enter Try.func48, Try.ntmps48
  go_wp2_with (first | (refine wl_buildZ ?_) | (refine wl_store (h1 := mC_one _) ?_))
  have hbx : RowK ((((w.alloc (.cells (mC m) 47)).alloc (.cells #[.int .i64 0, .int .i64 0, .int .i64 0, .int .i64 0, .int .i64 0, .int .i64 0, .int .i64 0, .int .i64 0, .int .i64 0] 47)).alloc (.cells #[.int .i64 0, .int .i64 0, .int .i64 0, .int .i64 0, .int .i64 0, .int .i64 0, .int .i64 0, .int .i64 0, .int .i64 0] 47)).setRow (w.heap.size + 1 + 1) (mC m0)) w.heap.size (mC m) 47 := findRow
  have hr4 : RowK ((((w.alloc (.cells (mC m) 47)).alloc (.cells #[.int .i64 0, .int .i64 0, .int .i64 0, .int .i64 0, .int .i64 0, .int .i64 0, .int .i64 0, .int .i64 0, .int .i64 0] 47)).alloc (.cells #[.int .i64 0, .int .i64 0, .int .i64 0, .int .i64 0, .int .i64 0, .int .i64 0, .int .i64 0, .int .i64 0, .int .i64 0] 47)).setRow (w.heap.size + 1 + 1) (mC m0)) (w.heap.size + 1) (mC m0) 47 := (show RowK _ _ #[.int .i64 0, .int .i64 0, .int .i64 0, .int .i64 0, .int .i64 0, .int .i64 0, .int .i64 0, .int .i64 0, .int .i64 0] _ from findRow)
  have hr5 : RowK ((((w.alloc (.cells (mC m) 47)).alloc (.cells #[.int .i64 0, .int .i64 0, .int .i64 0, .int .i64 0, .int .i64 0, .int .i64 0, .int .i64 0, .int .i64 0, .int .i64 0] 47)).alloc (.cells #[.int .i64 0, .int .i64 0, .int .i64 0, .int .i64 0, .int .i64 0, .int .i64 0, .int .i64 0, .int .i64 0, .int .i64 0] 47)).setRow (w.heap.size + 1 + 1) (mC m0)) (w.heap.size + 1 + 1) (mC m0) 47 := findRow
  have hV : LowK w ((((w.alloc (.cells (mC m) 47)).alloc (.cells #[.int .i64 0, .int .i64 0, .int .i64 0, .int .i64 0, .int .i64 0, .int .i64 0, .int .i64 0, .int .i64 0, .int .i64 0] 47)).alloc (.cells #[.int .i64 0, .int .i64 0, .int .i64 0, .int .i64 0, .int .i64 0, .int .i64 0, .int .i64 0, .int .i64 0, .int .i64 0] 47)).setRow (w.heap.size + 1 + 1) (mC m0)) := findLow
  generalize ((((w.alloc (.cells (mC m) 47)).alloc (.cells #[.int .i64 0, .int .i64 0, .int .i64 0, .int .i64 0, .int .i64 0, .int .i64 0, .int .i64 0, .int .i64 0, .int .i64 0] 47)).alloc (.cells #[.int .i64 0, .int .i64 0, .int .i64 0, .int .i64 0, .int .i64 0, .int .i64 0, .int .i64 0, .int .i64 0, .int .i64 0] 47)).setRow (w.heap.size + 1 + 1) (mC m0)) = W2 at *
  obtain ⟨g3, hg3⟩ : ∃ g3, w.heap.size = g3 := ⟨_, rfl⟩
  have hg3w := Nat.le_of_eq hg3
  rw [hg3] at hbx hr4 hr5 ⊢
  clear hg3
  obtain ⟨g4, hg4⟩ : ∃ g4, g3 + 1 = g4 := ⟨_, rfl⟩
  have hl4 : g3 < g4 := by omega
  rw [hg4] at hr4 hr5 ⊢
  clear hg4
  obtain ⟨g5, hg5⟩ : ∃ g5, g4 + 1 = g5 := ⟨_, rfl⟩
  have hl5 : g4 < g5 := by omega
  rw [hg5] at hr5 ⊢
  clear hg5
  have hZ : MapP In12 W2 g5 := MapP.of hr5 (by intro x hx; simp [listM, m0] at hx; subst hx; exact ⟨by decide, by decide⟩)
  clear hr5
  go_loopw [6] (fun iv wr => ∃ i : Nat, i ≤ 3 ∧ iv = .int .i64 (i : Int) ∧ MapP In12 wr g5 ∧ ButK g5 W2 wr) (fun iv wr => 3 - (intOf iv).toNat)
  case atStart => exact ⟨0, by decide, rfl, hZ, ButK.refl _ _⟩
  case round =>
    clear hZ
    obtain ⟨i, hi, rfl, hZ, hB⟩ := hrel
    by_cases hlt : i < 3
    · go_wp2
      go_loopw [7] (fun jv wr => ∃ j : Nat, j ≤ 3 ∧ jv = .int .i64 (j : Int) ∧ MapP In12 wr g5 ∧ ButK g5 W2 wr) (fun jv wr => 3 - (intOf jv).toNat)
      case atStart => exact ⟨0, by decide, rfl, hZ, hB⟩
      case round =>
        clear hZ hB
        obtain ⟨j, hj, rfl, hZ, hB⟩ := hrel
        by_cases hlj : j < 3
        · have hrow := RowK.but hB (by omega) hbx
          have c0 : CellK wr g3 0 (.int .i64 m.1.1) := hrow.cellAt rfl
          have c1 : CellK wr g3 1 (.int .i64 m.1.2.1) := hrow.cellAt rfl
          have c2 : CellK wr g3 2 (.int .i64 m.1.2.2) := hrow.cellAt rfl
          have c3 : CellK wr g3 3 (.int .i64 m.2.1.1) := hrow.cellAt rfl
          have c4 : CellK wr g3 4 (.int .i64 m.2.1.2.1) := hrow.cellAt rfl
          have c5 : CellK wr g3 5 (.int .i64 m.2.1.2.2) := hrow.cellAt rfl
          have c6 : CellK wr g3 6 (.int .i64 m.2.2.1) := hrow.cellAt rfl
          have c7 : CellK wr g3 7 (.int .i64 m.2.2.2.1) := hrow.cellAt rfl
          have c8 : CellK wr g3 8 (.int .i64 m.2.2.2.2) := hrow.cellAt rfl
          rcases (show i = 0 ∨ i = 1 ∨ i = 2 by omega) with rfl | rfl | rfl <;> rcases (show j = 0 ∨ j = 1 ∨ j = 2 by omega) with rfl | rfl | rfl
          all_goals
            go_wp2_with (first | (refine wl_loadS ?_) | (with_reducible refine hold (p := wpList _ _ _ ({ dst := none, op := .store _ _ _, type := _, pos := _, after := _, guard := _ } :: _) _ _) ?_) | ((with_reducible apply region_gd (id := 9)); refine region_QA (id := 9) 29 ?_; apply Exists.intro; refine ⟨fun G => ?_, fun W hl => ?_⟩; (· (simp only [List.take_succ_cons, List.take_zero]; (repeat (first | go_big_quiet_skip | (go_big_quiet_want; first | (refine q_loadS ?_; simp only [Act.put, List.setIfInBounds_toArray, List.set_cons_zero, List.set_cons_succ]; go_big_quiet_on) | (refine q_load ?_; simp only [Act.put, List.setIfInBounds_toArray, List.set_cons_zero, List.set_cons_succ]; go_big_quiet_on) | (go_big_quiet_op; first | go_big_quiet_on | (apply Exists.intro; refine ⟨fun g => ?_, ?_⟩; (· (have hl := growL g; first | (go_at_call 68; with_reducible exact grow_ret (Mod_W p _ _ hp)))); go_big_quiet_on))))); exact rfl)); have hs := hl.out.size; (try simp at hs); simp only [List.drop_succ_cons, List.drop_zero]))
            unfold Hold
            have hlow : LowK wr W := findLow
            refine wl_storeS (hS := (hZ.link (LowK.lnk hlow)).st (by decide)) ?_
            have hB2 := hB.low hlow
            go_wp2
            go_roundw
            case rel => first | exact ⟨1, by decide, (by first | rfl | go_num), (hZ.link (LowK.lnk hlow)).set (by decide) (in12_mod hp), hB2.set _ _⟩ | exact ⟨2, by decide, (by first | rfl | go_num), (hZ.link (LowK.lnk hlow)).set (by decide) (in12_mod hp), hB2.set _ _⟩ | exact ⟨3, by decide, (by first | rfl | go_num), (hZ.link (LowK.lnk hlow)).set (by decide) (in12_mod hp), hB2.set _ _⟩
            case measure => (simp [intOf]; try omega)
        · obtain rfl : j = 3 := by omega
          go_wp2
          go_roundw
          case rel => exact ⟨i + 1, by omega, by go_num, hZ, hB⟩
          case measure => (simp [intOf]; try omega)
    · obtain rfl : i = 3 := by omega
      obtain ⟨t, ht, hin0⟩ := hZ.get
      have hin : InM t := hin0
      clear hin0
      have hr4' := RowK.but hB (by omega) hr4
      have hVr := LowK.but hB (by omega) hV
      go_wp2_with (first | (refine wl_load ?_) | (refine wl_store (h1 := mC_one _) ?_) | (go_at_call 43; (with_reducible refine (normal_E p t _ hp hin).mono ?_); rintro e w' ⟨rfl, hb⟩; have hl := Link.mk hb; have hs := hb.size; (try simp at hs); clear hb))
      have hlow : LowK w (w'.setRow g4 (mC (normM p t))) := findLow
      have hg4 : RowK (w'.setRow g4 (mC (normM p t))) g4 (mC (normM p t)) 47 := findRow
      exact ret_row Try.results48 rfl hg4 9 rfl Try.sizeOf47 Try.isAgg47 rfl ⟨normM p t, rfl, inM_norm hp, hlow⟩
end Go.Proofs.Ytnpmdchphaenaaa
/- Contracts: the map that is drawn. -- draws -/
namespace Go.Proofs.Ytnpmdchphaenaaa
open Go.RowKit
set_option linter.unusedVariables false
set_option linter.unusedSimpArgs false
theorem ButK.setNew {g g5 : Nat} {w W : World} {U : Array Value} (hg : w.heap.size ≤ g5) (h : ButK g w W) : ButK g w (W.setRow g5 U) := by
  obtain ⟨h1, h2, h3, h4, h5⟩ := h.out
  refine ⟨by simpa using h1, fun b hb hne => (setRow_other _ _ _ _ (show b ≠ g5 by omega)).trans (h2 b hb hne), h3, h4, h5⟩
theorem ButK.setCNew {g g5 : Nat} {w W : World} (k : Nat) (v : Value) (hg : w.heap.size ≤ g5) (h : ButK g w W) : ButK g w (W.setCell ⟨g5, k, none⟩ v) := by
  obtain ⟨h1, h2, h3, h4, h5⟩ := h.out
  refine ⟨by simpa [World.setCell] using h1, fun b hb hne => (setCell_blk W (show b ≠ g5 by omega) k v).trans (h2 b hb hne), h3, h4, h5⟩
theorem SrcK.setRow {W : World} {g g5 n c : Nat} {b : Option Addr} {U : Array Value} (hne : g ≠ g5) (hb : ∀ a, b = some a → a.block ≠ g5) (h : SrcK W g b n c) : SrcK (W.setRow g5 U) g b n c := by
  obtain ⟨a, x, hr, h1⟩ := h.row
  refine ⟨⟨a, x, hr.set hne, h1⟩, fun hn => ?_, h.ne, h.le⟩
  obtain ⟨gb, o, e, hc⟩ := h.code hn
  exact ⟨gb, o, e, fun i hi => by obtain ⟨x, h1, h2⟩ := hc i hi; exact ⟨x, by rw [cell_other _ _ _ _ _ (hb _ e)]; exact h1, h2⟩⟩
theorem RowK.setO {W : World} {g g5 k : Nat} {v : Value} {cs : Array Value} {T : TypeId} (hne : g ≠ g5) (h : RowK W g cs T) : RowK (W.setCell ⟨g5, k, none⟩ v) g cs T := ⟨(setCell_blk W hne k v).trans h.out⟩
theorem SrcK.setC {W : World} {g g5 n c k : Nat} {v : Value} {b : Option Addr} (hne : g ≠ g5) (hb : ∀ a, b = some a → a.block ≠ g5) (h : SrcK W g b n c) : SrcK (W.setCell ⟨g5, k, none⟩ v) g b n c := by
  obtain ⟨a, x, hr, h1⟩ := h.row
  refine ⟨⟨a, x, hr.setO hne, h1⟩, fun hn => ?_, h.ne, h.le⟩
  obtain ⟨gb, o, e, hc⟩ := h.code hn
  exact ⟨gb, o, e, fun i hi => by obtain ⟨x, h1, h2⟩ := hc i hi; exact ⟨x, by rw [show (W.setCell ⟨g5, k, none⟩ v).cell? ⟨gb, o + i, none⟩ = W.cell? ⟨gb, o + i, none⟩ from World.cell?_of_block (w := W) (a := ⟨gb, o + i, none⟩) (setCell_blk W (hb _ e) k v)]; exact h1, h2⟩⟩
/-- The map that turns the coordinates around. -/
def cycM : M9 := ((0, 1, 0), (0, 0, 1), (1, 0, 0))
theorem cyc_in : InM cycM := by intro x hx; simp [listM, cycM] at hx; rcases hx with rfl | rfl | rfl | rfl | rfl <;> exact ⟨by decide, by decide⟩
set_option pp.deepTerms false
set_option pp.deepTerms.threshold 10
set_option maxRecDepth 20000 in
set_option maxHeartbeats 16000000 in
theorem DrawMap_E (g : Nat) (b : Option Addr) (n c : Nat) (p : Int) (w : World) (hS : SrcK w g b n c) (hb : ∀ a, b = some a → a.block < w.heap.size) (hp : prB p = true) :
    Calls Try.prog 45 #[.pointer (some ⟨g, 0, none⟩), .int .i64 p] w (fun e W => ∃ t, e = .returned (mV t) ∧ InM t ∧ Drew g b n c w W) := by
  have hgl := hS.lt
  go_enter Try.func45, Try.ntmps45
  go_wp2_with (first | (refine wl_store (h1 := mC_one _) ?_) | (go_at_call 24; (with_reducible refine (unit_S _).mono ?_); rintro e w1 ⟨rfl, hb1⟩; have hl1 := Link.mk hb1; have hs1 := hb1.size; (try simp at hs1); clear hb1) | (go_at_call 46; have r4 : RowK ((w1.alloc (.cells #[.int .i64 0, .int .i64 0, .int .i64 0, .int .i64 0, .int .i64 0, .int .i64 0, .int .i64 0, .int .i64 0, .int .i64 0] 47)).setRow w1.heap.size (mC oneM)) w.heap.size #[.int .i64 0, .int .i64 0, .int .i64 0, .int .i64 0, .int .i64 0, .int .i64 0, .int .i64 0, .int .i64 0, .int .i64 0] 47 := findRow; have r5 : RowK ((w1.alloc (.cells #[.int .i64 0, .int .i64 0, .int .i64 0, .int .i64 0, .int .i64 0, .int .i64 0, .int .i64 0, .int .i64 0, .int .i64 0] 47)).setRow w1.heap.size (mC oneM)) w1.heap.size (mC oneM) 47 := findRow; have hV : LowK w ((w1.alloc (.cells #[.int .i64 0, .int .i64 0, .int .i64 0, .int .i64 0, .int .i64 0, .int .i64 0, .int .i64 0, .int .i64 0, .int .i64 0] 47)).setRow w1.heap.size (mC oneM)) := findLow; (with_reducible refine (Next_S g b n c 6 _ (hS.link (LowK.lnk hV)) (by decide)).mono ?_); rintro e w2 ⟨k0, rfl, hk0, hD⟩))
  have q4 : RowK w2 w.heap.size (mC m0) 47 := RowK.but hD.but (by omega) r4
  have q5 := RowK.but hD.but (by omega) r5
  have hB2 : ButK g w w2 := hD.but.tr ((ButK.refl g w).low hV)
  have hS2 := hD.src
  obtain ⟨g4, hg4⟩ : ∃ g4, w.heap.size = g4 := ⟨_, rfl⟩
  obtain ⟨g5, hg5⟩ : ∃ g5, w1.heap.size = g5 := ⟨_, rfl⟩
  have hw4 := Nat.le_of_eq hg4
  have hw4' := Nat.le_of_eq hg4.symm
  rw [hg4] at q4 ⊢
  rw [hg5] at q5 ⊢
  have h45 : g4 < g5 := by omega
  have hk0' : k0 ≤ 5 := by omega
  clear r4 r5 hV hD hl1 hs1 hg4 hg5 hk0
  go_loopw [6] (fun iv wr => ∃ (k : Nat) (t : M9), k ≤ 5 ∧ iv = .int .i64 (k : Int) ∧ InM t ∧ RowK wr g4 (mC m0) 47 ∧ RowK wr g5 (mC t) 47 ∧ SrcK wr g b n c ∧ ButK g w wr) (fun iv wr => (intOf iv).toNat)
  case atStart => exact ⟨k0, oneM, hk0', rfl, oneM_in, q4, q5, hS2, hB2⟩
  case round =>
    clear q4 q5 hS2 hB2
    obtain ⟨k, t, hk, rfl, ht, q4, q5, hS2, hB2⟩ := hrel
    have hbb : ∀ a, b = some a → a.block ≠ g5 := fun a ha => by have := hb a ha; omega
    have hszr := hB2.size
    by_cases hk1 : 0 < k
    · have hk1' : (0 : Int) < (k : Int) := by omega
      have tok : True := trivial
      go_wp2_with (first | (refine wl_store (h1 := mC_one _) ?_) | (go_at_call 24; (with_reducible refine (unit_S _).mono ?_); rintro e w3 ⟨rfl, hb1⟩; have hl3 := Link.mk hb1; have hs3 := hb1.size; (try simp at hs3); clear hb1) | (have _t := tok; go_at_call 46; have r7 : RowK ((w3.alloc (.cells #[.int .i64 0, .int .i64 0, .int .i64 0, .int .i64 0, .int .i64 0, .int .i64 0, .int .i64 0, .int .i64 0, .int .i64 0] 47)).setRow w3.heap.size (mC oneM)) w3.heap.size (mC oneM) 47 := findRow; have hV : LowK wr ((w3.alloc (.cells #[.int .i64 0, .int .i64 0, .int .i64 0, .int .i64 0, .int .i64 0, .int .i64 0, .int .i64 0, .int .i64 0, .int .i64 0] 47)).setRow w3.heap.size (mC oneM)) := findLow; (with_reducible refine (Next_S g b n c 3 _ (hS2.link (LowK.lnk hV)) (by decide)).mono ?_); rintro e w4 ⟨i, rfl, hi, hD4⟩; clear tok) | (go_at_call 46; (with_reducible refine (Next_S g b n c 3 _ hD4.src (by decide)).mono ?_); rintro e w5 ⟨j, rfl, hj, hD5⟩))
      · rename_i hij
        clear hij
        have m7 : MapP In12 w5 w3.heap.size := MapP.but hD5.but (by omega) (MapP.but hD4.but (by omega) (MapP.of r7 oneM_in))
        have e4 := RowK.but hD5.but (by omega) (RowK.but hD4.but (by omega) (q4.link (LowK.lnk hV)))
        have e5 := RowK.but hD5.but (by omega) (RowK.but hD4.but (by omega) (q5.link (LowK.lnk hV)))
        have hB5 := hD5.but.tr (hD4.but.tr (hB2.low hV))
        have hS5 := hD5.src
        have hpb := prB_bd hp
        obtain ⟨g7, hg7⟩ : ∃ g7, w3.heap.size = g7 := ⟨_, rfl⟩
        have hw7 : w.heap.size ≤ g7 := by have := hV.size; have := hB2.size; omega
        rw [hg7] at m7 ⊢
        have hw8 : wr.heap.size ≤ g7 := by omega
        have h4w := q4.lt
        have h5w := q5.lt
        clear r7 hV q4 q5 hB2 hD4 hD5 hS2 hg7
        refine region_CHA (id := 8) 10 [5, 6, 9] (fun W => MapP In12 W g7 ∧ RowK W g4 (mC m0) 47 ∧ RowK W g5 (mC t) 47 ∧ SrcK W g b n c ∧ ButK g w W) (.k (.k (.k (.k (.k (.d (.d (.k (.k (.d .n)))))))))) (.d (.d (.d (.d (.d (.k (.k (.d (.d (.k .n)))))))))) (fun W W' h l => ⟨h.1.link l, h.2.1.link l, h.2.2.1.link l, h.2.2.2.1.link l, h.2.2.2.2.low (Link.low l)⟩) ⟨m7, e4, e5, hS5, hB5⟩ ?_
        apply Exists.intro
        refine ⟨fun W0 hk G => ?_, ?_⟩
        · repeat (first | go_big_quiet_skip | (go_big_quiet_want; first | (refine q_loadS ?_; simp only [Act.put, List.setIfInBounds_toArray, List.set_cons_zero, List.set_cons_succ]; go_big_quiet_on) | (refine q_load ?_; simp only [Act.put, List.setIfInBounds_toArray, List.set_cons_zero, List.set_cons_succ]; go_big_quiet_on) | (go_big_quiet_op; first | go_big_quiet_on)))
          exact rfl
        refine ch_step fun V1 hl1 => ?_
        go_wp2_with (first | (go_at_call 46; (with_reducible refine (Next_S g b n c (p - 1) _ (hS5.link hl1) (by omega)).mono ?_); rintro e w6 ⟨r, rfl, hr, hD6⟩))
        refine ⟨rfl, ⟨_, rfl⟩, ⟨MapP.but hD6.but (by omega) (m7.link hl1), RowK.but hD6.but (by omega) (e4.link hl1), RowK.but hD6.but (by omega) (e5.link hl1), hD6.src, hD6.but.tr (hB5.low (Link.low hl1))⟩, ?_⟩
        have m7' := MapP.but hD6.but (by omega) (m7.link hl1)
        have e4' := RowK.but hD6.but (by omega) (e4.link hl1)
        have e5' := RowK.but hD6.but (by omega) (e5.link hl1)
        have hS6 := hD6.src
        have hB6 := hD6.but.tr (hB5.low (Link.low hl1))
        clear hD6
        refine ch_step fun V2 hl2 => ?_
        go_wp2
        refine ⟨rfl, ⟨_, rfl⟩, ⟨m7'.link hl2, e4'.link hl2, e5'.link hl2, hS6.link hl2, hB6.low (Link.low hl2)⟩, ?_⟩
        refine ch_step fun V3 hl3' => ?_
        have kp : ∀ o, o < 9 → MapP In12 (V3.setCell ⟨g7, o, none⟩ (.int .i64 (1 + (r : Int)))) g7 ∧ RowK (V3.setCell ⟨g7, o, none⟩ (.int .i64 (1 + (r : Int)))) g4 (mC m0) 47 ∧ RowK (V3.setCell ⟨g7, o, none⟩ (.int .i64 (1 + (r : Int)))) g5 (mC t) 47 ∧ SrcK (V3.setCell ⟨g7, o, none⟩ (.int .i64 (1 + (r : Int)))) g b n c ∧ ButK g w (V3.setCell ⟨g7, o, none⟩ (.int .i64 (1 + (r : Int)))) := fun o ho => ⟨((m7'.link hl2).link hl3').set ho ⟨by omega, by omega⟩, RowK.setO (by omega) ((e4'.link hl2).link hl3'), RowK.setO (by omega) ((e5'.link hl2).link hl3'), SrcK.setC (by omega) (fun a ha => by have := hb a ha; omega) ((hS6.link hl2).link hl3'), ButK.setCNew _ _ hw7 ((hB6.low (Link.low hl2)).low (Link.low hl3'))⟩
        refine wl_storeS (hS := ((m7'.link hl2).link hl3').st (by omega)) ?_
        go_wp2
        refine ⟨rfl, ⟨.int .i64 0, rfl⟩, kp _ (by omega), ?_⟩
        refine ch_nil fun V4 hl4 => ?_
        (try simp only [List.drop_succ_cons, List.drop_zero])
        have f7 : MapP In12 V4 g7 := (kp _ (by omega)).1.link hl4
        have f4 := (kp _ (by omega)).2.1.link hl4
        have f5 := (kp _ (by omega)).2.2.1.link hl4
        have fS := (kp _ (by omega)).2.2.2.1.link hl4
        have fB := (kp _ (by omega)).2.2.2.2.low (Link.low hl4)
        obtain ⟨t7, f7r, ht7⟩ := f7.get
        replace ht7 : InM t7 := ht7
        clear f7 kp m7' e4' e5' hS6 hB6 m7 e4 e5 hS5 hB5 hl1 hl2 hl3' hl4
        go_wp2_with (first | (refine wl_store (h1 := mC_one _) ?_) | ((with_reducible apply region_gd (id := 10)); refine region_QA (id := 10) 6 ?_; apply Exists.intro; refine ⟨fun G => ?_, fun W hl => ?_⟩; (· (simp only [List.take_succ_cons, List.take_zero]; (repeat (first | go_big_quiet_skip | (go_big_quiet_want; first | (refine q_loadS ?_; simp only [Act.put, List.setIfInBounds_toArray, List.set_cons_zero, List.set_cons_succ]; go_big_quiet_on) | (refine q_load ?_; simp only [Act.put, List.setIfInBounds_toArray, List.set_cons_zero, List.set_cons_succ]; go_big_quiet_on) | (go_big_quiet_op; first | go_big_quiet_on | (apply Exists.intro; refine ⟨fun g => ?_, ?_⟩; (· (have hl := growL g; first | (go_at_call 43; with_reducible exact grow_ret (normal_E p t7 _ hp ht7)) | (go_at_call 25; with_reducible exact grow_ret (times_S _ rfl hp ht (inM_norm hp))))); go_big_quiet_on))))); exact rfl)); have hs := hl.out.size; (try simp at hs); simp only [List.drop_succ_cons, List.drop_zero]))
        go_roundw
        case rel => exact ⟨k - 1, timesM p t (normM p t7), by omega, by go_num, inM_times hp, RowK.set (by omega) (f4.link (LowK.lnk findLow)), findRow, SrcK.setRow (by omega) hbb (fS.link (LowK.lnk findLow)), ButK.setNew (by omega) (fB.low findLow)⟩
        case measure => (simp [intOf]; try omega)
      · rename_i hij
        clear hij
        have m7 : MapP In12 w5 w3.heap.size := MapP.but hD5.but (by omega) (MapP.but hD4.but (by omega) (MapP.of r7 oneM_in))
        have e4 := RowK.but hD5.but (by omega) (RowK.but hD4.but (by omega) (q4.link (LowK.lnk hV)))
        have e5 := RowK.but hD5.but (by omega) (RowK.but hD4.but (by omega) (q5.link (LowK.lnk hV)))
        have hB5 := hD5.but.tr (hD4.but.tr (hB2.low hV))
        have hS5 := hD5.src
        have hpb := prB_bd hp
        obtain ⟨g7, hg7⟩ : ∃ g7, w3.heap.size = g7 := ⟨_, rfl⟩
        have hw7 : w.heap.size ≤ g7 := by have := hV.size; have := hB2.size; omega
        rw [hg7] at m7 ⊢
        have hw8 : wr.heap.size ≤ g7 := by omega
        have h4w := q4.lt
        have h5w := q5.lt
        clear r7 hV q4 q5 hB2 hD4 hD5 hS2 hg7
        refine region_CHA (id := 9) 8 [4, 7] (fun W => MapP In12 W g7 ∧ RowK W g4 (mC m0) 47 ∧ RowK W g5 (mC t) 47 ∧ SrcK W g b n c ∧ ButK g w W) (.k (.k (.k (.k (.d (.k (.k (.d .n)))))))) (.d (.d (.d (.d (.k (.d (.d (.k .n)))))))) (fun W W' h l => ⟨h.1.link l, h.2.1.link l, h.2.2.1.link l, h.2.2.2.1.link l, h.2.2.2.2.low (Link.low l)⟩) ⟨m7, e4, e5, hS5, hB5⟩ ?_
        apply Exists.intro
        refine ⟨fun W0 hk G => ?_, ?_⟩
        · repeat (first | go_big_quiet_skip | (go_big_quiet_want; first | (refine q_loadS ?_; simp only [Act.put, List.setIfInBounds_toArray, List.set_cons_zero, List.set_cons_succ]; go_big_quiet_on) | (refine q_load ?_; simp only [Act.put, List.setIfInBounds_toArray, List.set_cons_zero, List.set_cons_succ]; go_big_quiet_on) | (go_big_quiet_op; first | go_big_quiet_on)))
          exact rfl
        refine ch_step fun V1 hl1 => ?_
        go_wp2_with (first | (go_at_call 46; (with_reducible refine (Next_S g b n c p _ (hS5.link hl1) (by omega)).mono ?_); rintro e w6 ⟨r, rfl, hr, hD6⟩))
        refine ⟨rfl, ⟨_, rfl⟩, ⟨MapP.but hD6.but (by omega) (m7.link hl1), RowK.but hD6.but (by omega) (e4.link hl1), RowK.but hD6.but (by omega) (e5.link hl1), hD6.src, hD6.but.tr (hB5.low (Link.low hl1))⟩, ?_⟩
        have m7' := MapP.but hD6.but (by omega) (m7.link hl1)
        have e4' := RowK.but hD6.but (by omega) (e4.link hl1)
        have e5' := RowK.but hD6.but (by omega) (e5.link hl1)
        have hS6 := hD6.src
        have hB6 := hD6.but.tr (hB5.low (Link.low hl1))
        clear hD6
        refine ch_step fun V3 hl3' => ?_
        have kp : ∀ o, o < 9 → MapP In12 (V3.setCell ⟨g7, o, none⟩ (.int .i64 (r : Int))) g7 ∧ RowK (V3.setCell ⟨g7, o, none⟩ (.int .i64 (r : Int))) g4 (mC m0) 47 ∧ RowK (V3.setCell ⟨g7, o, none⟩ (.int .i64 (r : Int))) g5 (mC t) 47 ∧ SrcK (V3.setCell ⟨g7, o, none⟩ (.int .i64 (r : Int))) g b n c ∧ ButK g w (V3.setCell ⟨g7, o, none⟩ (.int .i64 (r : Int))) := fun o ho => ⟨(m7'.link hl3').set ho ⟨by omega, by omega⟩, RowK.setO (by omega) (e4'.link hl3'), RowK.setO (by omega) (e5'.link hl3'), SrcK.setC (by omega) (fun a ha => by have := hb a ha; omega) (hS6.link hl3'), ButK.setCNew _ _ hw7 (hB6.low (Link.low hl3'))⟩
        refine wl_storeS (hS := (m7'.link hl3').st (by omega)) ?_
        go_wp2
        refine ⟨rfl, ⟨.int .i64 0, rfl⟩, kp _ (by omega), ?_⟩
        refine ch_nil fun V4 hl4 => ?_
        (try simp only [List.drop_succ_cons, List.drop_zero])
        have f7 : MapP In12 V4 g7 := (kp _ (by omega)).1.link hl4
        have f4 := (kp _ (by omega)).2.1.link hl4
        have f5 := (kp _ (by omega)).2.2.1.link hl4
        have fS := (kp _ (by omega)).2.2.2.1.link hl4
        have fB := (kp _ (by omega)).2.2.2.2.low (Link.low hl4)
        obtain ⟨t7, f7r, ht7⟩ := f7.get
        replace ht7 : InM t7 := ht7
        clear f7 kp m7' e4' e5' hS6 hB6 m7 e4 e5 hS5 hB5 hl1 hl3' hl4
        go_wp2_with (first | (refine wl_store (h1 := mC_one _) ?_) | ((with_reducible apply region_gd (id := 10)); refine region_QA (id := 10) 6 ?_; apply Exists.intro; refine ⟨fun G => ?_, fun W hl => ?_⟩; (· (simp only [List.take_succ_cons, List.take_zero]; (repeat (first | go_big_quiet_skip | (go_big_quiet_want; first | (refine q_loadS ?_; simp only [Act.put, List.setIfInBounds_toArray, List.set_cons_zero, List.set_cons_succ]; go_big_quiet_on) | (refine q_load ?_; simp only [Act.put, List.setIfInBounds_toArray, List.set_cons_zero, List.set_cons_succ]; go_big_quiet_on) | (go_big_quiet_op; first | go_big_quiet_on | (apply Exists.intro; refine ⟨fun g => ?_, ?_⟩; (· (have hl := growL g; first | (go_at_call 43; with_reducible exact grow_ret (normal_E p t7 _ hp ht7)) | (go_at_call 25; with_reducible exact grow_ret (times_S _ rfl hp ht (inM_norm hp))))); go_big_quiet_on))))); exact rfl)); have hs := hl.out.size; (try simp at hs); simp only [List.drop_succ_cons, List.drop_zero]))
        go_roundw
        case rel => exact ⟨k - 1, timesM p t (normM p t7), by omega, by go_num, inM_times hp, RowK.set (by omega) (f4.link (LowK.lnk findLow)), findRow, SrcK.setRow (by omega) hbb (fS.link (LowK.lnk findLow)), ButK.setNew (by omega) (fB.low findLow)⟩
        case measure => (simp [intOf]; try omega)
    · obtain rfl : k = 0 := by omega
      have hV0 := hB2.size
      have HT : ∀ W, Calls Try.prog 25 #[.int .i64 p, .agg (mC t), .agg #[.int .i64 0, .int .i64 1, .int .i64 0, .int .i64 0, .int .i64 0, .int .i64 1, .int .i64 1, .int .i64 0, .int .i64 0]] W (Ret W (mV (timesM p t cycM))) := fun W => times_S (y := cycM) W rfl hp ht cyc_in
      go_wp2_with (first | (refine wl_load ?_) | (refine wl_store (h1 := mC_one _) ?_) | (go_at_call 25; (with_reducible refine (HT _).mono ?_); rintro e w6 ⟨rfl, hb6⟩; have hl6 := Link.mk hb6; clear hb6; have k5 := e5.link hl6; have k4 := e4.link hl6) | (go_at_call 46; (with_reducible refine (Next_S g b n c 4 _ hS2 (by decide)).mono ?_); rintro e w3 ⟨r, rfl, hr, hD⟩; have e4 := RowK.but hD.but (by omega) q4; have e5 := RowK.but hD.but (by omega) q5; have hB3 := hD.but.tr hB2; have hS3 := hD.src))
      · have hg4 : RowK ((w6.setRow g5 (mC (timesM p t cycM))).setRow g4 (mC (timesM p t cycM))) g4 (mC (timesM p t cycM)) 47 := findRow
        exact ret_row Try.results45 rfl hg4 9 rfl Try.sizeOf47 Try.isAgg47 rfl ⟨timesM p t cycM, rfl, inM_times hp, SrcK.setRow (by omega) (fun a ha => by have := hb a ha; omega) (SrcK.setRow (by omega) (fun a ha => by have := hb a ha; omega) (hS3.link hl6)), ButK.setNew (by omega) (ButK.setNew (by omega) (hB3.low (Link.low hl6)))⟩
      · have hg4 : RowK (w3.setRow g4 (mC t)) g4 (mC t) 47 := findRow
        exact ret_row Try.results45 rfl hg4 9 rfl Try.sizeOf47 Try.isAgg47 rfl ⟨t, rfl, ht, SrcK.setRow (by omega) (fun a ha => by have := hb a ha; omega) hS3, ButK.setNew (by omega) hB3⟩
end Go.Proofs.Ytnpmdchphaenaaa
/- A region whose operations draw their order: calm ones are walked once; the others (calls that draw, new blocks, what reads them) are known by relation, in no order of their own. -/
namespace Go.Proofs.Ytnpmdchphaenaaa
open Go.RowKit
set_option linter.unusedVariables false
set_option linter.unusedSimpArgs false
structure StOk (St : World → World → Prop) : Prop where
  lnk : ∀ W W', Link W W' → St W W'
  tr : ∀ W W' W'', St W W' → St W' W'' → St W W''
def RelD (Rel : Nat → Value → World → Prop) : Option Nat → Value → World → Prop
  | some t, v, W => Rel t v W
  | none, _, _ => True
structure DREnd (St : World → World → Prop) (Rel : Nat → Value → World → Prop) (o : Oper) (a : Act) (W : World) (e : Exit) (a' : Act) (W' : World) : Prop where
  e1 : e = .normal
  out : ∃ v, a' = a.put o.dst v ∧ St W W' ∧ RelD Rel o.dst v W'
def PastR (Rel : Nat → Value → World → Prop) (W : World) (a : Act) : List Nat → Prop
  | [] => True
  | t :: r => Rel t (a.tmps.getD t undef) W ∧ PastR Rel W a r
def wpDR (P : Program) (ops : Array Oper) (St : World → World → Prop) (Rel : Nat → Value → World → Prop) (ts : List Nat) (w : World) (Q' : Act → World → Prop) : List Oper → Act → Prop
  | [], a => ∀ W, St w W → PastR Rel W a ts → Q' a W
  | o :: r, a => (∀ W, St w W → (∀ u, (readsOf o).contains u = true → ts.contains u = true → Rel u (a.tmps.getD u undef) W) → wpList P ops (fun e a' W' => DREnd St Rel o a W e a' W') [o] a W) ∧ ∀ v, wpDR P ops St Rel ts w Q' r (a.put o.dst v)
theorem dr_step {P : Program} {ops : Array Oper} {St : World → World → Prop} {Rel : Nat → Value → World → Prop} {ts : List Nat} {w : World} {Q' : Act → World → Prop} {o : Oper} {r : List Oper} {a : Act}
    (h : ∀ W, St w W → (∀ u, (readsOf o).contains u = true → ts.contains u = true → Rel u (a.tmps.getD u undef) W) → wpList P ops (fun e a' W' => DREnd St Rel o a W e a' W') [o] a W)
    (h2 : ∀ v, wpDR P ops St Rel ts w Q' r (a.put o.dst v)) : wpDR P ops St Rel ts w Q' (o :: r) a := ⟨h, h2⟩
theorem dr_nil {P : Program} {ops : Array Oper} {St : World → World → Prop} {Rel : Nat → Value → World → Prop} {ts : List Nat} {w : World} {Q' : Act → World → Prop} {a : Act} (h : ∀ W, St w W → PastR Rel W a ts → Q' a W) : wpDR P ops St Rel ts w Q' [] a := h
/-- The act in which the chain's slots are filled. -/
def canD (v : Nat → Value) : List Oper → Act → Act
  | [], a => a
  | o :: r, a => canD v r (a.put o.dst (match o.dst with | some t => v t | none => undef))
theorem canD_size (v : Nat → Value) : ∀ (l : List Oper) (a : Act), (canD v l a).tmps.size = a.tmps.size
  | [], _ => rfl
  | o :: r, a => by rw [canD, canD_size v r, put_size]
theorem canD_defers (v : Nat → Value) : ∀ (l : List Oper) (a : Act), (canD v l a).defers = a.defers
  | [], _ => rfl
  | o :: r, a => by rw [canD, canD_defers v r, put_defers]
theorem canD_other (v : Nat → Value) (u : Nat) : ∀ (l : List Oper) (a : Act), (∀ o ∈ l, o.dst ≠ some u) → (canD v l a).tmps.getD u undef = a.tmps.getD u undef
  | [], _, _ => rfl
  | o :: r, a, h => by
    rw [canD, canD_other v u r _ (fun o' ho' => h o' (List.mem_cons_of_mem _ ho'))]
    have := h o (List.mem_cons_self ..)
    cases hd : o.dst with
    | none => rfl
    | some t => exact put_get_ne _ _ _ _ (fun e => this (by rw [hd, e]))
theorem canD_in (v : Nat → Value) (u : Nat) : ∀ (l : List Oper) (a : Act), u < a.tmps.size → (∃ o ∈ l, o.dst = some u) → (canD v l a).tmps.getD u undef = v u
  | [], _, _, h => by obtain ⟨o, ho, -⟩ := h; cases ho
  | o :: r, a, hs, h => by
    rw [canD]
    by_cases hr : ∃ o' ∈ r, o'.dst = some u
    · exact canD_in v u r _ (by rw [put_size]; exact hs) hr
    · rw [canD_other v u r _ (fun o' ho' e => hr ⟨o', ho', e⟩)]
      obtain ⟨o', ho', e⟩ := h
      rcases List.mem_cons.1 ho' with e2 | e2
      · subst e2
        rw [e]
        exact put_get_same _ _ _ hs
      · exact (hr ⟨o', e2, e⟩).elim
theorem wpDR.at {P : Program} {ops : Array Oper} {St : World → World → Prop} {Rel : Nat → Value → World → Prop} {ts : List Nat} {w : World} {Q' : Act → World → Prop} (v : Nat → Value) : ∀ (cl : List Oper) (a : Act), wpDR P ops St Rel ts w Q' cl a → ∀ (k : Nat) (o : Oper), cl[k]? = some o →
    ∀ W, St w W → (∀ u, (readsOf o).contains u = true → ts.contains u = true → Rel u ((canD v (cl.take k) a).tmps.getD u undef) W) → wpList P ops (fun e a' W' => DREnd St Rel o (canD v (cl.take k) a) W e a' W') [o] (canD v (cl.take k) a) W
  | [], _, _, k, o, h => by simp at h
  | o :: r, a, hd, 0, o', h => by
    simp only [List.getElem?_cons_zero, Option.some.injEq] at h
    subst h
    exact hd.1
  | o :: r, a, hd, k + 1, o', h => by
    rw [List.getElem?_cons_succ] at h
    rw [List.take_succ_cons]
    exact wpDR.at v r _ (hd.2 _) k o' h
theorem wpDR.fin {P : Program} {ops : Array Oper} {St : World → World → Prop} {Rel : Nat → Value → World → Prop} {ts : List Nat} {w : World} {Q' : Act → World → Prop} (v : Nat → Value) : ∀ (cl : List Oper) (a : Act), wpDR P ops St Rel ts w Q' cl a → ∀ W, St w W → PastR Rel W (canD v cl a) ts → Q' (canD v cl a) W
  | [], _, h => h
  | o :: r, a, hd => wpDR.fin v r _ (hd.2 _)
theorem PastR.mk {Rel : Nat → Value → World → Prop} {W : World} {a : Act} : ∀ {ts : List Nat}, (∀ t ∈ ts, Rel t (a.tmps.getD t undef) W) → PastR Rel W a ts
  | [], _ => trivial
  | t :: r, h => ⟨h t (List.mem_cons_self ..), PastR.mk (fun u hu => h u (List.mem_cons_of_mem _ hu))⟩
/-- The chain is in the text's order, and each of its operations yields a value. -/
def chAsc : List Nat → Bool
  | [] => true
  | x :: r => (r.all fun y => decide (x < y)) && chAsc r
theorem chAsc_at : ∀ {ch : List Nat}, chAsc ch = true → ∀ {j k x y : Nat}, ch[j]? = some x → ch[k]? = some y → x < y → j < k
  | [], _, j, k, x, y, h, _, _ => by simp at h
  | z :: r, h, j, k, x, y, hj, hk, hxy => by
    unfold chAsc at h
    simp only [Bool.and_eq_true, List.all_eq_true, decide_eq_true_eq] at h
    cases k with
    | zero =>
      exfalso
      simp only [List.getElem?_cons_zero, Option.some.injEq] at hk
      subst hk
      cases j with
      | zero => simp only [List.getElem?_cons_zero, Option.some.injEq] at hj; omega
      | succ j => rw [List.getElem?_cons_succ] at hj; have := h.1 x (List.mem_of_getElem? hj); omega
    | succ k =>
      cases j with
      | zero => omega
      | succ j =>
        rw [List.getElem?_cons_succ] at hj hk
        have := chAsc_at h.2 hj hk hxy
        omega
def chDst (l : List Oper) (m : Nat) (ch : List Nat) : Bool := ch.all fun i => decide (i < m) && match l[i]? with | some o => o.dst.isSome | none => false
structure RInvD (l : List Oper) (m : Nat) (ch : List Nat) (St : World → World → Prop) (Rel : Nat → Value → World → Prop) (a0 aE : Act) (w0 : World) (listed : Array Bool) (a : Act) (w : World) : Prop where
  df : a.defers = a0.defers
  sz : a.tmps.size = a0.tmps.size
  len : listed.size = l.length
  fr1 : ∀ (j : Nat) (o : Oper) (t : Nat), j < m → l[j]? = some o → o.dst = some t → ch.contains j = false → listed.getD j false = true → a.tmps.getD t undef = aE.tmps.getD t undef
  fr2 : ∀ (j : Nat) (o : Oper) (t : Nat), j < m → l[j]? = some o → o.dst = some t → ch.contains j = true → listed.getD j false = true → Rel t (a.tmps.getD t undef) w
  fr0 : ∀ t : Nat, (∀ (j : Nat) (o : Oper), j < m → l[j]? = some o → o.dst = some t → listed.getD j false = false) → a.tmps.getD t undef = a0.tmps.getD t undef
  bl : St w0 w
  rest : ∀ j, m ≤ j → listed.getD j false = false
  dc : ∀ (i : Nat) (o : Oper), l[i]? = some o → listed.getD i false = true → ∀ e ∈ o.after, Region.binds .any e = true → listed.getD e.on false = true
section
variable {P : Program} {Q : Exit → Act → World → Prop} {l : List Oper} {a0 : Act} {w : World} {ch : List Nat}
theorem region_dr {id : Nat} (m : Nat) (ch : List Nat) (St : World → World → Prop) (Rel : Nat → Value → World → Prop) {ts : List Nat} {cl : List Oper} (hm : P.follows .mixedOrders = true) (hml : m ≤ l.length)
    (chk : viaChkC l m a0.tmps.size ch = true) (hgd : guardsIn l m = true) (hon : onceC l m = true) (hcb : chanB l m ch = true) (has : chAsc ch = true) (hcd : chDst l m ch = true)
    (hcl : (ch.filterMap fun i => l[i]?) = cl) (hts : cl.filterMap (·.dst) = ts)
    (hst : StOk St) (mono : ∀ t v W W', Rel t v W → St W W' → Rel t v W')
    (H : ∃ aE, (∀ W0, St w W0 → ∀ G : Grow0 W0, wpQuiet P l.toArray (fun w' => ∃ g : Grow W0 G, w' = g.W) (fun a' => a' = aE) (((List.range m).filter fun i => !ch.contains i).filterMap fun i => l[i]?) a0) ∧
      wpDR P l.toArray St Rel ts w (fun a' W' => wpList P l.toArray Q (l.drop m) a' W') cl aE) :
    (Code.region id l.toArray true).wp P Q a0 w := by
  obtain ⟨aE, H1, H2⟩ := H
  generalize hr : ((List.range m).filter fun i => !ch.contains i).filterMap (fun i => l[i]?) = r at *
  -- the calm ones, by their place
  have hrm : ∀ o ∈ r, ∃ i, i < m ∧ l[i]? = some o ∧ ch.contains i = false := fun o ho => by
    rw [← hr] at ho
    obtain ⟨i, hi, hio⟩ := List.mem_filterMap.1 ho
    have := List.mem_filter.1 hi
    exact ⟨i, List.mem_range.1 this.1, hio, by simpa using this.2⟩
  have hrl : ∀ i o, i < m → l[i]? = some o → ch.contains i = false → o ∈ r := fun i o him hio hc => by
    rw [← hr]
    exact List.mem_filterMap.2 ⟨i, List.mem_filter.2 ⟨List.mem_range.2 him, by rw [hc]; rfl⟩, hio⟩
  -- the order of r is that of the text
  have hord : ∀ (j k : Nat) (o o' : Oper), r[j]? = some o → r[k]? = some o' → ∃ i i', i < m ∧ i' < m ∧ l[i]? = some o ∧ l[i']? = some o' ∧ ch.contains i = false ∧ ch.contains i' = false ∧ (j < k → i < i') ∧ (k < j → i' < i) ∧ (j = k → i = i') := by
    have key : ∀ (is : List Nat), is.Pairwise (· < ·) → (∀ i ∈ is, i < m ∧ ch.contains i = false) → ∀ (j k : Nat) (o o' : Oper), (is.filterMap fun i => l[i]?)[j]? = some o → (is.filterMap fun i => l[i]?)[k]? = some o' →
        ∃ i i', i ∈ is ∧ i' ∈ is ∧ l[i]? = some o ∧ l[i']? = some o' ∧ (j < k → i < i') ∧ (k < j → i' < i) ∧ (j = k → i = i') := by
      intro is
      induction is with
      | nil => intro _ _ j k o o' h; simp at h
      | cons x is ih =>
        intro hp hq j k o o' hj hk'
        rw [List.pairwise_cons] at hp
        have hl : ∃ ox, l[x]? = some ox := ⟨l[x]'(by have := (hq x (List.mem_cons_self ..)).1; omega), List.getElem?_eq_getElem _⟩
        obtain ⟨ox, hox⟩ := hl
        rw [List.filterMap_cons, hox] at hj hk'
        cases j with
        | zero =>
          simp only [List.getElem?_cons_zero, Option.some.injEq] at hj
          subst hj
          cases k with
          | zero =>
            simp only [List.getElem?_cons_zero, Option.some.injEq] at hk'
            subst hk'
            exact ⟨x, x, List.mem_cons_self .., List.mem_cons_self .., hox, hox, (fun h => by omega), (fun h => by omega), fun _ => rfl⟩
          | succ k =>
            rw [List.getElem?_cons_succ] at hk'
            obtain ⟨i, hi, hio⟩ := List.mem_filterMap.1 (List.mem_of_getElem? hk')
            exact ⟨x, i, List.mem_cons_self .., List.mem_cons_of_mem _ hi, hox, hio, fun _ => hp.1 i hi, (fun h => by omega), (fun h => by omega)⟩
        | succ j =>
          rw [List.getElem?_cons_succ] at hj
          cases k with
          | zero =>
            simp only [List.getElem?_cons_zero, Option.some.injEq] at hk'
            subst hk'
            obtain ⟨i, hi, hio⟩ := List.mem_filterMap.1 (List.mem_of_getElem? hj)
            exact ⟨i, x, List.mem_cons_of_mem _ hi, List.mem_cons_self .., hio, hox, (fun h => by omega), fun _ => hp.1 i hi, (fun h => by omega)⟩
          | succ k =>
            rw [List.getElem?_cons_succ] at hk'
            obtain ⟨i, i', h1, h2, h3, h4, h5, h6, h7⟩ := ih hp.2 (fun i hi => hq i (List.mem_cons_of_mem _ hi)) j k o o' hj hk'
            exact ⟨i, i', List.mem_cons_of_mem _ h1, List.mem_cons_of_mem _ h2, h3, h4, (fun h => h5 (by omega)), (fun h => h6 (by omega)), (fun h => h7 (by omega))⟩
    intro j k o o' hj hk'
    rw [← hr] at hj hk'
    obtain ⟨i, i', h1, h2, h3⟩ := key _ (List.Pairwise.filter _ List.pairwise_lt_range) (fun i hi => by have := List.mem_filter.1 hi; exact ⟨List.mem_range.1 this.1, by simpa using this.2⟩) j k o o' hj hk'
    have q1 := List.mem_filter.1 h1
    have q2 := List.mem_filter.1 h2
    exact ⟨i, i', List.mem_range.1 q1.1, List.mem_range.1 q2.1, h3.1, h3.2.1, by simpa using q1.2, by simpa using q2.2, h3.2.2⟩
  have hsome : ∀ o ∈ r, o.dst ≠ none := fun o ho => by
    obtain ⟨i, him, hi, hc⟩ := hrm o ho
    intro h
    rw [((viaChkC_at chk hi).2.2.1 him).2.2.1 h] at hc; cases hc
  have look : ∀ {C : World → Prop} {us : List (Nat × Value)}, QSteps P l.toArray C r us a0 → puts a0 us = aE → ∀ {i : Nat} {o : Oper} {t : Nat}, i < m → ch.contains i = false → l[i]? = some o → o.dst = some t →
      ∃ v, aE.tmps.getD t undef = v ∧ ((Region.wanted o (yielded l.toArray aE.tmps) = true ∧ ∀ w, C w → Oper.quietUpon P C w v ((execOp aE.eval o).run P w)) ∨ (Region.wanted o (yielded l.toArray aE.tmps) = false ∧ v = undef)) := by
    intro C us hus hue i o t him hic hi hd
    obtain ⟨ri, hri⟩ := List.getElem?_of_mem (hrl i o him hi hic)
    have place : ∀ k ok, r[k]? = some ok → ∃ i', i' < m ∧ l[i']? = some ok ∧ ch.contains i' = false ∧ (ri < k → i < i') ∧ (ri ≤ k → i ≤ i') := by
      intro k ok hk'
      obtain ⟨x, x', hx, hx', hxo, hxo', _, hc', h1, h2, h3⟩ := hord ri k o ok hri hk'
      have e : x = i := by
        rcases Nat.lt_trichotomy x i with h | h | h
        · exact absurd hd (onceC_at hon hx him (by omega) hxo hi hd)
        · exact h
        · exact absurd hd (onceC_at hon him hx (by omega) hi hxo hd)
      subst e
      refine ⟨x', hx', hxo', hc', h1, fun h => ?_⟩
      rcases Nat.lt_or_ge ri k with h4 | h4
      · exact Nat.le_of_lt (h1 h4)
      · have := h3 (by omega); omega
    obtain ⟨t', v, ai, hd', hy, hsz, hv, hread⟩ := QSteps.at _ _ _ hus ri o hri
    rw [hd] at hd'; obtain rfl := Option.some.inj hd'
    rw [hue] at hv hread
    have hC := viaChkC_at chk hi
    have hCm := hC.2.2.1 him
    have hCb := (chanB_at hcb him hi).2 hic
    have htN := hCm.2.1 t hd
    have hval := hv htN (fun j o' hij hj => by obtain ⟨i', hi'm, hi', _, hlt, _⟩ := place j o' hj; exact onceC_at hon him hi'm (by have := hlt hij; omega) hi hi' hd)
    have heq : execOp ai.eval o = execOp aE.eval o := execOp_congr o hC.1 (fun x hx => by
      cases x with
      | tmp u =>
        refine hread u (fun j o' hij hj hdu => ?_)
        obtain ⟨i', hi'm, hi', _, _, hle⟩ := place j o' hj
        obtain ⟨e, he, hb, hon'⟩ := bindsTo_spec (hCm.2.2.2 u (List.mem_filterMap.2 ⟨.tmp u, by simpa using hx, rfl⟩) i' o' hi'm hi' hdu)
        have := hC.2.1 e he hb
        have := hle hij
        omega
      | _ => rfl)
    have hwe : Region.wanted o (yielded l.toArray ai.tmps) = Region.wanted o (yielded l.toArray aE.tmps) := by
      unfold Region.wanted
      cases hg : o.guard with
      | none => rfl
      | some kb =>
        obtain ⟨k, b⟩ := kb
        obtain ⟨e, he, hb, hon'⟩ := bindsTo_spec (hCm.1 k b hg)
        have hki := hC.2.1 e he hb
        rw [hon'] at hki
        have : yielded l.toArray ai.tmps k = yielded l.toArray aE.tmps k := yielded_congr (by rw [hsz, ← hue, puts_size]) (fun ok tk hk' hdk => hread tk (fun j o' hij hj hdj => by
          obtain ⟨i', hi'm, hi', _, _, hle⟩ := place j o' hj
          exact onceC_at hon (by omega) hi'm (by have := hle hij; omega) (show l[k]? = some ok by simpa using hk') hi' hdk hdj))
        simp only [this]
    refine ⟨v, hval, ?_⟩
    rcases hy with ⟨hw, hq⟩ | ⟨hw, hu⟩
    · exact .inl ⟨by rw [← hwe]; exact hw, fun w hw' => by have := hq w hw'; unfold Oper.quietAt at this; rwa [heq] at this⟩
    · exact .inr ⟨by rw [← hwe]; exact hw, hu⟩
  obtain ⟨us0, hus0, hue0⟩ := quiet_out _ _ hsome (H1 w (hst.lnk _ _ ⟨Below.refl _ _⟩) ⟨w, Below.refl _ _⟩)
  have hEs : aE.tmps.size = a0.tmps.size := by rw [← hue0, puts_size]
  have hEd : aE.defers = a0.defers := by rw [← hue0, puts_defers]
  have hE0 : ∀ u, (∀ (j : Nat) (o : Oper), j < m → l[j]? = some o → ch.contains j = false → o.dst ≠ some u) → aE.tmps.getD u undef = a0.tmps.getD u undef := fun u hu => by
    rw [← hue0]
    refine puts_other u us0 a0 (fun kv hk' e => ?_)
    obtain ⟨j, o, hj, hd⟩ := QSteps.key _ _ _ hus0 kv hk'
    obtain ⟨i, him, hi, hc⟩ := hrm o (List.mem_of_getElem? hj)
    exact hu i o him hi hc (by rw [hd, e])
  -- the chain's operations by their place
  have hcdi : ∀ i, i ∈ ch → i < m ∧ ∃ o t, l[i]? = some o ∧ o.dst = some t := fun i hi => by
    unfold chDst at hcd
    have h := List.all_eq_true.1 hcd i hi
    simp only [Bool.and_eq_true, decide_eq_true_eq] at h
    obtain ⟨h1, h2⟩ := h
    have hlt : i < l.length := by omega
    rw [List.getElem?_eq_getElem hlt] at h2
    obtain ⟨t, ht⟩ := Option.isSome_iff_exists.1 h2
    exact ⟨h1, _, t, List.getElem?_eq_getElem hlt, ht⟩
  have hclk : ∀ (js : List Nat), (∀ i ∈ js, i ∈ ch) → ∀ k : Nat, (js.filterMap fun i : Nat => l[i]?)[k]? = (js[k]?).bind fun i : Nat => l[i]? := by
    intro js
    induction js with
    | nil => intro _ k; simp
    | cons x r ih =>
      intro hjs k
      obtain ⟨-, o, t, ho, -⟩ := hcdi x (hjs x (List.mem_cons_self ..))
      rw [List.filterMap_cons, ho]
      cases k with
      | zero => simp [ho]
      | succ k => rw [List.getElem?_cons_succ, List.getElem?_cons_succ]; exact ih (fun i hi => hjs i (List.mem_cons_of_mem _ hi)) k
  have hclk' : ∀ k : Nat, cl[k]? = (ch[k]?).bind fun i : Nat => l[i]? := fun k => by rw [← hcl]; exact hclk ch (fun i hi => hi) k
  have hmemts : ∀ t, ts.contains t = true ↔ ∃ (i : Nat) (o : Oper), ch.contains i = true ∧ l[i]? = some o ∧ o.dst = some t := by
    intro t
    rw [List.contains_iff_mem, ← hts, ← hcl, List.mem_filterMap]
    constructor
    · rintro ⟨o, ho, hd⟩
      obtain ⟨i, hi, hio⟩ := List.mem_filterMap.1 ho
      exact ⟨i, o, List.contains_iff_mem.2 hi, hio, hd⟩
    · rintro ⟨i, o, hi, hio, hd⟩
      exact ⟨o, List.mem_filterMap.2 ⟨i, List.contains_iff_mem.1 hi, hio⟩, hd⟩
  refine wp_region_any hm ?_
  have key : ∀ (fuel : Nat) (listed : Array Bool) (a : Act) (W : World), RInvD l m ch St Rel a0 aE w listed a W →
      (List.range m).countP (fun i => !listed.getD i true) + (l.length - m) ≤ fuel → wpAny P .any l.toArray Q fuel listed a W := by
    intro fuel
    have fin : ∀ (fuel : Nat) (listed : Array Bool) (a : Act) (W : World), RInvD l m ch St Rel a0 aE w listed a W → (∀ j, j < m → listed.getD j false = true) → l.length - m ≤ fuel → wpAny P .any l.toArray Q fuel listed a W := by
      intro fuel listed a W hI hall hf
      have hcin : ∀ t, ts.contains t = true → t < aE.tmps.size → (canD (fun t => a.tmps.getD t undef) cl aE).tmps.getD t undef = a.tmps.getD t undef := fun t ht hlt => by
        obtain ⟨i, o, hi, hio, hd⟩ := (hmemts t).1 ht
        exact canD_in _ t cl aE hlt ⟨o, by rw [← hcl]; exact List.mem_filterMap.2 ⟨i, List.contains_iff_mem.1 hi, hio⟩, hd⟩
      have hcout : ∀ t, ¬ ts.contains t = true → (canD (fun t => a.tmps.getD t undef) cl aE).tmps.getD t undef = aE.tmps.getD t undef := fun t ht => by
        refine canD_other _ t cl aE (fun o ho e => ht ?_)
        rw [← hcl] at ho
        obtain ⟨i, hi, hio⟩ := List.mem_filterMap.1 ho
        exact (hmemts t).2 ⟨i, o, List.contains_iff_mem.2 hi, hio, e⟩
      have ea : a = canD (fun t => a.tmps.getD t undef) cl aE := by
        refine act_ext _ _ (by rw [hI.df, canD_defers, hEd]) (by rw [hI.sz, canD_size, hEs]) (fun t ht => ?_)
        by_cases htd : ts.contains t = true
        · exact (hcin t htd (by rw [hEs, ← hI.sz]; exact ht)).symm
        · rw [hcout t htd]
          by_cases hw : ∃ (j : Nat) (o : Oper), j < m ∧ l[j]? = some o ∧ o.dst = some t
          · obtain ⟨j, o, hjm, hj, ho⟩ := hw
            refine hI.fr1 j o t hjm hj ho ?_ (hall j hjm)
            cases hc : ch.contains j with
            | false => rfl
            | true => exact absurd ((hmemts t).2 ⟨j, o, hc, hj, ho⟩) htd
          · rw [hI.fr0 t (fun j o hjm hj ho => (hw ⟨j, o, hjm, hj, ho⟩).elim)]
            exact (hE0 t (fun j o hjm hj _ ho => hw ⟨j, o, hjm, hj, ho⟩)).symm
      have hq := H2.fin (fun t => a.tmps.getD t undef) cl aE W hI.bl (PastR.mk (fun t ht => by
        obtain ⟨i, o, hi, hio, hd⟩ := (hmemts t).1 (List.contains_iff_mem.2 ht)
        obtain ⟨him, -⟩ := hcdi i (List.contains_iff_mem.1 hi)
        have htN := ((viaChkC_at chk hio).2.2.1 him).2.1 t hd
        rw [hcin t (List.contains_iff_mem.2 ht) (by rw [hEs]; exact htN)]
        exact hI.fr2 i o t him hio hd hi (hall i him)))
      rw [← ea] at hq
      refine any_tailC chk fuel m listed _ W (Nat.le_refl _) hml hI.len (fun j hj => ⟨fun h => ?_, fun h => hall j h⟩) hf hq
      rcases Nat.lt_or_ge j m with h2 | h2
      · exact h2
      · rw [hI.rest j h2] at h; cases h
    induction fuel with
    | zero =>
      intro listed a W hI hc
      refine fin 0 listed a W hI (fun j hj => ?_) (by omega)
      have h0 : (List.range m).countP (fun i => !listed.getD i true) = 0 := by omega
      rw [List.countP_eq_zero] at h0
      have := h0 j (List.mem_range.2 hj)
      have hj' : j < listed.size := by rw [hI.len]; omega
      simpa [hj'] using this
    | succ fuel ih =>
      intro listed a W hI hc
      by_cases hall : ∀ j, j < m → listed.getD j false = true
      · exact fin _ listed a W hI hall (by omega)
      · have hno : ∀ i, i ∈ Region.ready .any l.toArray listed → i < m := by
          intro i hi
          rcases Nat.lt_or_ge i m with h | h
          · exact h
          · exfalso
            obtain ⟨o, hio, hil, hi0, ha⟩ := ready_mem hi hI.len
            rcases Nat.eq_or_lt_of_le h with h2 | h2
            · refine hall (fun j hj => ?_)
              exact reach_listed hI.dc _ i j o hio ha ((viaChkC_at chk hio).2.2.2.1 h2.symm j hj)
            · obtain ⟨e, he, hb, hon'⟩ := bindsTo_spec ((viaChkC_at chk hio).2.2.2.2 h2)
              have h3 := ha e he hb
              rw [hon', hI.rest (i - 1) (by omega)] at h3; cases h3
        refine ⟨fun hr0 => ?_, fun i hi => ?_⟩
        · exfalso
          have all : ∀ i, i < l.length → listed.getD i false = true := by
            intro i
            induction i using Nat.strongRecOn with
            | _ i ih2 =>
              intro hi
              cases hb : listed.getD i false with
              | true => rfl
              | false =>
                exfalso
                have ho : l[i]? = some l[i] := List.getElem?_eq_getElem hi
                have hmem : i ∈ Region.ready .any l.toArray listed := by
                  rw [mem_ready]
                  refine ⟨?_, l[i], by simp, fun e he hbd => ?_⟩
                  · have : i < listed.size := by have := hI.len; omega
                    simp [this] at hb ⊢; exact hb
                  · exact ih2 e.on ((viaChkC_at chk ho).2.1 e he hbd) (by have := (viaChkC_at chk ho).2.1 e he hbd; omega)
                rw [hr0] at hmem; cases hmem
          exact hall (fun j hj => all j (by omega))
        · have him := hno i hi
          obtain ⟨o, hio, hil, hi0, hal⟩ := ready_mem hi hI.len
          have hil' : i < listed.size := by rw [hI.len]; exact hil
          have ho : l.toArray[i]? = some o := by simpa using hio
          have hC := viaChkC_at chk hio
          have hCm := hC.2.2.1 him
          have hcnt : (List.range m).countP (fun j => !(listed.setIfInBounds i true).getD j true) + (l.length - m) ≤ fuel := by
            have := count_lt (fun j => !listed.getD j true) (fun j => !(listed.setIfInBounds i true).getD j true) (fun j hj => by
                by_cases e : i = j
                · subst e; simp [hil'] at hj
                · rw [getD_set_ne true e] at hj; exact hj) i (by simpa [hil'] using hi0) (by simp [hil']) (List.range m) (List.mem_range.2 him)
            omega
          have dcS : ∀ (i2 : Nat) (o2 : Oper), l[i2]? = some o2 → (listed.setIfInBounds i true).getD i2 false = true → ∀ e ∈ o2.after, Region.binds .any e = true → (listed.setIfInBounds i true).getD e.on false = true := by
            intro j oj hj hl e he hb
            rw [getD_set _ _ _ hil']
            by_cases ei : i = e.on
            · rw [if_pos ei]
            · rw [if_neg ei]
              rw [getD_set _ _ _ hil'] at hl
              by_cases ej : i = j
              · subst ej; rw [hio] at hj; obtain rfl := Option.some.inj hj; exact hal e he hb
              · rw [if_neg ej] at hl; exact hI.dc j oj hj hl e he hb
          have hi0f : listed.getD i false = false := by simpa [hil'] using hi0
          have restS : ∀ j, m ≤ j → (listed.setIfInBounds i true).getD j false = false := fun j hj => by rw [getD_set _ _ _ hil', if_neg (by omega)]; exact hI.rest j hj
          obtain ⟨t, hdst⟩ : ∃ t, o.dst = some t := by
            cases hd : o.dst with
            | some t => exact ⟨t, rfl⟩
            | none =>
              obtain ⟨-, o', t', ho', hd'⟩ := hcdi i (List.contains_iff_mem.1 (hCm.2.2.1 hd))
              rw [hio] at ho'; obtain rfl := Option.some.inj ho'; rw [hd] at hd'; cases hd'
          have htN := hCm.2.1 t hdst
          have fr0S : ∀ (v : Value) (u : Nat), (∀ (j : Nat) (o : Oper), j < m → l[j]? = some o → o.dst = some u → (listed.setIfInBounds i true).getD j false = false) → (a.put o.dst v).tmps.getD u undef = a0.tmps.getD u undef := by
            intro v u hnu
            have hou : o.dst ≠ some u := fun e => by
              have := hnu i o him hio e
              rw [getD_set _ _ _ hil', if_pos rfl] at this; cases this
            have e0 : (a.put o.dst v).tmps.getD u undef = a.tmps.getD u undef := by
              cases hd : o.dst with
              | none => rfl
              | some t => exact put_get_ne _ _ _ _ (fun e => hou (by rw [hd, e]))
            rw [e0]
            refine hI.fr0 u (fun j oj hjm hj hjd => ?_)
            have := hnu j oj hjm hj hjd
            rw [getD_set _ _ _ hil'] at this
            by_cases e : i = j
            · rw [if_pos e] at this; cases this
            · rw [if_neg e] at this; exact this
          cases hic : ch.contains i with
          | false =>
            rw [hdst] at fr0S
            have hCb := (chanB_at hcb him hio).2 hic
            have hrE : ∀ u ∈ readsOf o, a.tmps.getD u undef = aE.tmps.getD u undef := fun u hu => by
              by_cases hw : ∃ (j : Nat) (oj : Oper), j < m ∧ l[j]? = some oj ∧ oj.dst = some u
              · obtain ⟨j, oj, hjm, hj, hjd⟩ := hw
                obtain ⟨e, he, hb, hon'⟩ := bindsTo_spec (hCm.2.2.2 u hu j oj hjm hj hjd)
                refine hI.fr1 j oj u hjm hj hjd ?_ (by rw [← hon']; exact hal e he hb)
                cases hcj : ch.contains j with
                | false => rfl
                | true => exact absurd hjd (hCb.2 u hu j oj hcj hj)
              · rw [hI.fr0 u (fun j oj hjm hj ho => (hw ⟨j, oj, hjm, hj, ho⟩).elim), hE0 u (fun j oj hjm hj _ ho => hw ⟨j, oj, hjm, hj, ho⟩)]
            have heqE : execOp a.eval o = execOp aE.eval o := execOp_congr o hC.1 (fun x hx => by
              cases x with
              | tmp u => exact hrE u (List.mem_filterMap.2 ⟨.tmp u, by simpa using hx, rfl⟩)
              | _ => rfl)
            have hwe : Region.wanted o (yielded l.toArray a.tmps) = Region.wanted o (yielded l.toArray aE.tmps) := by
              unfold Region.wanted
              cases hg : o.guard with
              | none => rfl
              | some kb =>
                obtain ⟨k, b⟩ := kb
                obtain ⟨e, he, hb, hon'⟩ := bindsTo_spec (hCm.1 k b hg)
                have hkm := guardsIn_at hgd him hio hg
                have hlk : listed.getD k false = true := by rw [← hon']; exact hal e he hb
                have : yielded l.toArray a.tmps k = yielded l.toArray aE.tmps k := yielded_congr (by rw [hI.sz, hEs]) (fun ok tk hk' hdk => by
                  have hk2 : l[k]? = some ok := by simpa using hk'
                  exact hI.fr1 k ok tk hkm hk2 hdk (hCb.1 k b hg) hlk)
                simp only [this]
            have step : ∀ W', Below W.heap.size W W' → wpAny P .any l.toArray Q fuel (listed.setIfInBounds i true) (a.put (some t) (aE.tmps.getD t undef)) W' := by
              intro W' hWW
              have hS : St W W' := hst.lnk _ _ ⟨hWW⟩
              refine ih _ _ _ ⟨by rw [put_defers]; exact hI.df, by rw [put_size]; exact hI.sz, by simpa using hI.len, ?_, ?_, fr0S _, hst.tr _ _ _ hI.bl hS, restS, dcS⟩ hcnt
              · intro j oj u hjm hj hjd hjc hl
                by_cases htu : t = u
                · subst htu
                  rw [put_get_same _ _ _ (by rw [hI.sz]; exact htN)]
                · rw [put_get_ne _ _ _ _ htu]
                  rw [getD_set _ _ _ hil'] at hl
                  by_cases e : i = j
                  · subst e; rw [hio] at hj; obtain rfl := Option.some.inj hj; rw [hdst] at hjd; exact (htu (Option.some.inj hjd)).elim
                  · rw [if_neg e] at hl; exact hI.fr1 j oj u hjm hj hjd hjc hl
              · intro j oj u hjm hj hjd hjc hl
                have hij : i ≠ j := fun e => by subst e; rw [hic] at hjc; cases hjc
                rw [put_get_ne _ _ _ _ (fun e => onceC_at hon him hjm hij hio hj hdst (by rw [hjd, e]))]
                rw [getD_set _ _ _ hil', if_neg hij] at hl
                exact mono _ _ _ _ (hI.fr2 j oj u hjm hj hjd hjc hl) hS
            unfold wpOp
            simp only [ho]
            obtain ⟨us, hus, hue⟩ := quiet_out _ _ hsome (H1 W hI.bl ⟨W, Below.refl _ _⟩)
            obtain ⟨v, hv, h'⟩ := look hus hue him hic hio hdst
            rcases h' with ⟨hw, hq⟩ | ⟨hw, hu⟩
            · rw [hwe, hw]
              simp only [if_true]
              refine .inl ?_
              have hcalm := calmRun_of_quiet (w := W) (G := ⟨W, Below.refl _ _⟩) (hq W ⟨⟨W, Below.refl _ _⟩, rfl⟩)
              have hcalm' : calmAt P o a.eval W v := by
                refine ⟨?_⟩; have hh := hcalm.out; unfold calmRun at hh ⊢; rw [heqE]; exact hh
              refine wp_of_calm hcalm' (fun W' hb => ?_)
              rw [hdst, ← hv]
              exact step W' hb
            · rw [hwe, hw]
              simp only [Bool.false_eq_true, if_false, hdst]
              rw [hu] at hv
              rw [← hv]
              exact step W (Below.refl _ _)
          | true =>
            have hgn := (chanB_at hcb him hio).1 hic
            have hw : Region.wanted o (yielded l.toArray a.tmps) = true := by unfold Region.wanted; rw [hgn]
            obtain ⟨k, hkl, hk'⟩ := List.mem_iff_getElem.1 (List.contains_iff_mem.1 hic)
            have hk2 : ch[k]? = some i := by rw [← hk']; exact List.getElem?_eq_getElem hkl
            have hck : cl[k]? = some o := by rw [hclk', hk2]; exact hio
            -- the chain's operations ahead of this one
            have hpre : ∀ (j : Nat) (oj : Oper), j < i → ch.contains j = true → l[j]? = some oj → oj ∈ cl.take k := fun j oj hji hjc hj => by
              obtain ⟨k', hkl', hk''⟩ := List.mem_iff_getElem.1 (List.contains_iff_mem.1 hjc)
              have hk3 : ch[k']? = some j := by rw [← hk'']; exact List.getElem?_eq_getElem hkl'
              have hlt := chAsc_at has hk3 hk2 hji
              have hcj : cl[k']? = some oj := by rw [hclk', hk3]; exact hj
              exact List.mem_take_iff_getElem.2 ⟨k', by have := (List.getElem?_eq_some_iff.1 hcj).1; omega, (List.getElem?_eq_some_iff.1 hcj).2⟩
            have hb0 : ∀ u ∈ readsOf o, (canD (fun t => a.tmps.getD t undef) (cl.take k) aE).tmps.getD u undef = a.tmps.getD u undef ∧ (ts.contains u = true → Rel u (a.tmps.getD u undef) W) := fun u hu => by
              by_cases hw : ∃ (j : Nat) (oj : Oper), j < m ∧ l[j]? = some oj ∧ oj.dst = some u
              · obtain ⟨j, oj, hjm, hj, hjd⟩ := hw
                obtain ⟨e, he, hb, hon'⟩ := bindsTo_spec (hCm.2.2.2 u hu j oj hjm hj hjd)
                have hlj : listed.getD j false = true := by rw [← hon']; exact hal e he hb
                have hji : j < i := by have := hC.2.1 e he hb; omega
                have huN := ((viaChkC_at chk hj).2.2.1 hjm).2.1 u hjd
                cases hcj : ch.contains j with
                | true => exact ⟨canD_in _ u _ aE (by rw [hEs]; exact huN) ⟨oj, hpre j oj hji hcj hj, hjd⟩, fun _ => hI.fr2 j oj u hjm hj hjd hcj hlj⟩
                | false =>
                  have hno2 : ∀ (j' : Nat) (o' : Oper), ch.contains j' = true → l[j']? = some o' → o'.dst ≠ some u := fun j' o' hj' ho' hd' => by
                    obtain ⟨hjm', -⟩ := hcdi j' (List.contains_iff_mem.1 hj')
                    exact onceC_at hon hjm hjm' (fun e => by subst e; rw [hcj] at hj'; cases hj') hj ho' hjd hd'
                  refine ⟨?_, fun htu => ?_⟩
                  · rw [canD_other _ u _ aE (fun o' ho' hd' => by
                      have ho2 := List.mem_of_mem_take ho'
                      rw [← hcl] at ho2
                      obtain ⟨i', hi', hio'⟩ := List.mem_filterMap.1 ho2
                      exact hno2 i' o' (List.contains_iff_mem.2 hi') hio' hd')]
                    exact (hI.fr1 j oj u hjm hj hjd hcj hlj).symm
                  · obtain ⟨i', o', hi', hio', hd'⟩ := (hmemts u).1 htu
                    exact absurd hd' (hno2 i' o' hi' hio')
              · have hno2 : ∀ (j' : Nat) (o' : Oper), ch.contains j' = true → l[j']? = some o' → o'.dst ≠ some u := fun j' o' hj' ho' hd' => by
                  obtain ⟨hjm', -⟩ := hcdi j' (List.contains_iff_mem.1 hj')
                  exact hw ⟨j', o', hjm', ho', hd'⟩
                refine ⟨?_, fun htu => ?_⟩
                · rw [canD_other _ u _ aE (fun o' ho' hd' => by
                    have ho2 := List.mem_of_mem_take ho'
                    rw [← hcl] at ho2
                    obtain ⟨i', hi', hio'⟩ := List.mem_filterMap.1 ho2
                    exact hno2 i' o' (List.contains_iff_mem.2 hi') hio' hd'),
                    hI.fr0 u (fun j oj hjm hj ho => (hw ⟨j, oj, hjm, hj, ho⟩).elim), hE0 u (fun j oj hjm hj _ ho => hw ⟨j, oj, hjm, hj, ho⟩)]
                · obtain ⟨i', o', hi', hio', hd'⟩ := (hmemts u).1 htu
                  exact absurd hd' (hno2 i' o' hi' hio')
            have heqs : execOp a.eval o = execOp (canD (fun t => a.tmps.getD t undef) (cl.take k) aE).eval o := execOp_congr o hC.1 (fun x hx => by
              cases x with
              | tmp u => exact (hb0 u (List.mem_filterMap.2 ⟨.tmp u, by simpa using hx, rfl⟩)).1.symm
              | _ => rfl)
            have hone := H2.at (fun t => a.tmps.getD t undef) cl aE k o hck W hI.bl (fun u hu htu => by
              obtain ⟨h1, h2⟩ := hb0 u (List.contains_iff_mem.1 hu)
              rw [h1]; exact h2 htu)
            have hws : Region.wanted o (yielded l.toArray (canD (fun t => a.tmps.getD t undef) (cl.take k) aE).tmps) = true := by unfold Region.wanted; rw [hgn]
            have hcs : (canD (fun t => a.tmps.getD t undef) (cl.take k) aE).tmps.size = a0.tmps.size := by rw [canD_size, hEs]
            generalize canD (fun t => a.tmps.getD t undef) (cl.take k) aE = aC at *
            unfold wpList at hone
            rw [if_pos hws] at hone
            have hwp := hone.resolve_right (fun ⟨_, a1, w1, h1⟩ => by cases h1.e1)
            unfold wpOp
            simp only [ho, hw, if_true]
            refine .inl (Oper.wp_mono (fun a' W' h => ?_) (wp_other (Q := Q) heqs (fun e a w h => h.e1) (fun a' w' h => by obtain ⟨v, h1, -⟩ := h.out; exact ⟨v, h1⟩) hwp))
            obtain ⟨v, rfl, hde⟩ := h
            obtain ⟨v', hv', hS, hRt⟩ := hde.out
            rw [hdst] at hv' hRt fr0S ⊢
            have hvv : v = v' := by
              have : (aC.put (some t) v).tmps.getD t undef = (aC.put (some t) v').tmps.getD t undef := congrArg (fun x : Act => x.tmps.getD t undef) hv'
              rwa [put_get_same _ _ _ (by rw [hcs]; exact htN), put_get_same _ _ _ (by rw [hcs]; exact htN)] at this
            subst hvv
            replace hRt : Rel t v W' := hRt
            refine ih _ _ W' ⟨by rw [put_defers]; exact hI.df, by rw [put_size]; exact hI.sz, by simpa using hI.len, ?_, ?_, fr0S _, hst.tr _ _ _ hI.bl hS, restS, dcS⟩ hcnt
            · intro j oj u hjm hj hjd hjc hl
              have hij : i ≠ j := fun e => by subst e; rw [hic] at hjc; cases hjc
              rw [put_get_ne _ _ _ _ (fun e => onceC_at hon him hjm hij hio hj hdst (by rw [hjd, e]))]
              rw [getD_set _ _ _ hil', if_neg hij] at hl
              exact hI.fr1 j oj u hjm hj hjd hjc hl
            · intro j oj u hjm hj hjd hjc hl
              by_cases htu : t = u
              · subst htu
                rw [put_get_same _ _ _ (by rw [hI.sz]; exact htN)]
                exact hRt
              · rw [put_get_ne _ _ _ _ htu]
                rw [getD_set _ _ _ hil'] at hl
                by_cases e : i = j
                · subst e; rw [hio] at hj; obtain rfl := Option.some.inj hj; rw [hdst] at hjd; exact (htu (Option.some.inj hjd)).elim
                · rw [if_neg e] at hl; exact mono _ _ _ _ (hI.fr2 j oj u hjm hj hjd hjc hl) hS
  refine key _ _ _ _ ⟨rfl, rfl, by simp, ?_, ?_, ?_, hst.lnk _ _ ⟨⟨rfl, rfl, rfl, Nat.le_refl _, fun _ _ => rfl⟩⟩, ?_, ?_⟩ ?_
  · intro j o t _ hj hjd _ hl; rw [rep_false] at hl; cases hl
  · intro j o t _ hj hjd _ hl; rw [rep_false] at hl; cases hl
  · intro t _; rfl
  · intro j _; exact rep_false _ _
  · intro j o _ hl; rw [rep_false] at hl; cases hl
  · have : (List.range m).countP (fun i => !(Array.replicate l.toArray.size false).getD i true) ≤ m := Nat.le_trans List.countP_le_length (by simp)
    simp at this ⊢; omega
end
structure MonoS (St : World → World → Prop) (R : Value → World → Prop) : Prop where
  out : ∀ v W W', R v W → St W W' → R v W'
def AllMS (St : World → World → Prop) : List (Nat × (Value → World → Prop)) → Prop
  | [] => True
  | kv :: r => MonoS St kv.2 ∧ AllMS St r
theorem AllMS.spec {St : World → World → Prop} : ∀ (rs : List (Nat × (Value → World → Prop))), AllMS St rs → ∀ t v W W', relOf rs t v W → St W W' → relOf rs t v W'
  | [], _, _, _, _, _, _, _ => trivial
  | kv :: r, h, t, v, W, W', hr, hb => by
    unfold relOf at hr ⊢
    split
    · rename_i e; rw [if_pos e] at hr; exact h.1.out v W W' hr hb
    · rename_i e; rw [if_neg e] at hr; exact AllMS.spec r h.2 t v W W' hr hb
theorem region_DR {P : Program} {Q : Exit → Act → World → Prop} {l : List Oper} {a0 : Act} {w : World} {id : Nat} (m : Nat) (ch : List Nat) (St : World → World → Prop) (rs : List (Nat × (Value → World → Prop))) {ms mc : List Bool} {rl cl : List Oper} (hpk : Pick l ms rl) (hpc : Pick l mc cl)
    (hst : StOk St) (mono : AllMS St rs)
    (H : ∃ aE, (∀ W0, St w W0 → ∀ G : Grow0 W0, wpQuiet P l.toArray (fun w' => ∃ g : Grow W0 G, w' = g.W) (fun a' => a' = aE) rl a0) ∧ wpDR P l.toArray St (relOf rs) (rs.map (·.1)) w (fun a' W' => wpList P l.toArray Q (l.drop m) a' W') cl aE)
    (hm : P.follows .mixedOrders = true := by kernel_rfl) (hml : m ≤ l.length := by decide)
    (hrl : (((List.range m).filter fun i => !ch.contains i).filterMap fun i => l[i]?) = rl := by kernel_rfl) (hcl : (ch.filterMap fun i => l[i]?) = cl := by kernel_rfl) (hts : cl.filterMap (·.dst) = rs.map (·.1) := by kernel_rfl)
    (chk : viaChkC l m a0.tmps.size ch = true := by kernel_rfl) (hgd : guardsIn l m = true := by kernel_rfl) (hon : onceC l m = true := by kernel_rfl) (hcb : chanB l m ch = true := by kernel_rfl) (has : chAsc ch = true := by kernel_rfl) (hcd : chDst l m ch = true := by kernel_rfl) :
    (Code.region id l.toArray true).wp P Q a0 w := by
  subst hrl
  exact region_dr m ch St (relOf rs) hm hml chk hgd hon hcb has hcd hcl hts hst (fun t v W W' hr hS => AllMS.spec rs mono t v W W' hr hS) H
end Go.Proofs.Ytnpmdchphaenaaa
/- Contracts: what seldom is no map. -- draws -/
namespace Go.Proofs.Ytnpmdchphaenaaa
open Go.RowKit
set_option linter.unusedVariables false
set_option linter.unusedSimpArgs false
/-- A step that may draw. -/
structure StD (g : Nat) (b : Option Addr) (n c : Nat) (W W' : World) : Prop where
  src : SrcK W g b n c → SrcK W' g b n c
  but : ButK g W W'
theorem stD (g : Nat) (b : Option Addr) (n c : Nat) : StOk (StD g b n c) :=
  ⟨fun W W' l => ⟨fun h => h.link l, (ButK.refl g W).low (Link.low l)⟩, fun W W' W'' h h' => ⟨fun hs => h'.src (h.src hs), h'.but.tr h.but⟩⟩
theorem StD.refl {g n c : Nat} {b : Option Addr} {W : World} : StD g b n c W W := ⟨fun h => h, ButK.refl g W⟩
theorem Drew.st {g n c : Nat} {b : Option Addr} {W W' : World} (h : Drew g b n c W W') : StD g b n c W W' := ⟨fun _ => h.src, h.but⟩
theorem StD.drew {g n c : Nat} {b : Option Addr} {W W' : World} (h : StD g b n c W W') (hs : SrcK W g b n c) : Drew g b n c W W' := ⟨h.src hs, h.but⟩
theorem LowK.st {g n c : Nat} {b : Option Addr} {W W' : World} (l : LowK W W') : StD g b n c W W' := ⟨fun h => h.link (LowK.lnk l), (ButK.refl g W).low l⟩
theorem RowK.std {g n c h : Nat} {b : Option Addr} {W W' : World} {cs : Array Value} {T : TypeId} (st : StD g b n c W W') (hne : h ≠ g) (hr : RowK W h cs T) : RowK W' h cs T := hr.but st.but hne
/-- A number. -/
def isI (Pn : Int → Prop) : Value → World → Prop := fun v _ => ∃ r : Int, v = .int .i64 r ∧ Pn r
theorem mono_isI (St : World → World → Prop) (Pn : Int → Prop) : MonoS St (isI Pn) := ⟨fun _ _ _ h _ => h⟩
def isN (m : Nat) : Value → World → Prop := fun v _ => ∃ r : Nat, v = .int .i64 (r : Int) ∧ r < m
theorem mono_isN (St : World → World → Prop) (m : Nat) : MonoS St (isN m) := ⟨fun _ _ _ h _ => h⟩
/-- A pointer to a row of a map, to a number of a map. -/
def isRowPt (g : Nat) : Value → World → Prop := fun v _ => ∃ i : Nat, v = .pointer (some ⟨g, i * 3, none⟩) ∧ i < 3
def isNumPt (g : Nat) : Value → World → Prop := fun v _ => ∃ o : Nat, v = .pointer (some ⟨g, o, none⟩) ∧ o < 9
theorem mono_rowPt (St : World → World → Prop) (g : Nat) : MonoS St (isRowPt g) := ⟨fun _ _ _ h _ => h⟩
theorem mono_numPt (St : World → World → Prop) (g : Nat) : MonoS St (isNumPt g) := ⟨fun _ _ _ h _ => h⟩
/-- A slice of numbers in a block of its own. -/
def isNums (g k : Nat) : Value → World → Prop := fun v W => ∃ h, v = .slice (some ⟨h, 0, none⟩) k k ∧ h ≠ g ∧ NumK W h k
theorem mono_nums (g : Nat) (b : Option Addr) (n c k : Nat) : MonoS (StD g b n c) (isNums g k) := ⟨fun v W W' h st => by obtain ⟨a, e, h1, h2⟩ := h; exact ⟨a, e, h1, h2.but st.but h1⟩⟩
set_option pp.deepTerms false
set_option pp.deepTerms.threshold 10
set_option maxRecDepth 20000 in
set_option maxHeartbeats 16000000 in
theorem Bad_E (g : Nat) (b : Option Addr) (n c : Nat) (p : Int) (m : M9) (w : World) (hS : SrcK w g b n c) (hb : ∀ a, b = some a → a.block < w.heap.size) :
    Calls Try.prog 47 #[.pointer (some ⟨g, 0, none⟩), .int .i64 p, mV m] w (fun e W => ∃ t, e = .returned (mV t) ∧ Drew g b n c w W) := by
  have hgl := hS.lt
  go_enter Try.func47, Try.ntmps47
  have tok : True := trivial
  go_wp2_with (first | (have _t := tok; go_at_call 46; have r5 : RowK ((w.alloc (.cells (mC m) 47)).alloc (.cells #[.int .i64 0, .int .i64 0, .int .i64 0, .int .i64 0, .int .i64 0, .int .i64 0, .int .i64 0, .int .i64 0, .int .i64 0] 47)) w.heap.size (mC m) 47 := findRow; have r6 : RowK ((w.alloc (.cells (mC m) 47)).alloc (.cells #[.int .i64 0, .int .i64 0, .int .i64 0, .int .i64 0, .int .i64 0, .int .i64 0, .int .i64 0, .int .i64 0, .int .i64 0] 47)) (w.heap.size + 1) (mC m0) 47 := (show RowK _ _ #[.int .i64 0, .int .i64 0, .int .i64 0, .int .i64 0, .int .i64 0, .int .i64 0, .int .i64 0, .int .i64 0, .int .i64 0] _ from findRow); have hV : LowK w ((w.alloc (.cells (mC m) 47)).alloc (.cells #[.int .i64 0, .int .i64 0, .int .i64 0, .int .i64 0, .int .i64 0, .int .i64 0, .int .i64 0, .int .i64 0, .int .i64 0] 47)) := findLow; (with_reducible refine (Next_S g b n c 40 _ (hS.link (LowK.lnk hV)) (by decide)).mono ?_); rintro e w2 ⟨k0, rfl, hk0, hD⟩; have q5 := RowK.but hD.but (by omega) r5; have q6 := RowK.but hD.but (by omega) r6; have hD2 : Drew g b n c w w2 := ((Drew.refl hS).low hV).tr hD; obtain ⟨g5, hg5⟩ : ∃ g5, w.heap.size = g5 := ⟨_, rfl⟩; have hw5 := Nat.le_of_eq hg5; rw [hg5] at q5 q6 ⊢; have hgl5 : g < g5 := (by omega); obtain ⟨g6, hg6⟩ : ∃ g6, g5 + 1 = g6 := ⟨_, rfl⟩; have hl6 : g5 < g6 := (by omega); rw [hg6] at q6 ⊢; clear hg5 hg6 r5 r6 hV hD tok) | (refine wpList_load_at _ rfl 33 _ rfl (g := g5) (off := 3) (T := 47) (cs := mC m) (U := #[.int .i64 m.2.1.1, .int .i64 m.2.1.2.1, .int .i64 m.2.1.2.2]) (fr := (0, 0)) rfl q5.out 3 rfl (by intro j hj; rcases j with _|_|_|j <;> first | rfl | omega) Try.sizeOf33 Try.isAgg33 ?_) | (refine wpList_store_at _ rfl 33 _ _ rfl rfl (g := g5) (off := 6) (T := 47) (cs := mC m) (cs' := mC (m.1, m.2.1, m.2.1)) (U := #[.int .i64 m.2.1.1, .int .i64 m.2.1.2.1, .int .i64 m.2.1.2.2]) rfl rfl q5.out (Nat.le_of_ble_eq_true rfl) rfl Try.sizeOf33 (by simp [Value.oneCell']) ?_) | (refine wl_load ?_) | (refine wl_store (h1 := mC_one _) ?_))
  · rename_i hij
    clear hij
    have hS2 := hD2.src
    have m5 : MapP (fun _ => True) w2 g5 := MapP.of q5 (fun _ _ => trivial)
    refine region_DR (id := 3) 10 [1, 3, 6, 7, 8, 9] (StD g b n c) [(12, isN 3), (14, isN 3), (17, isNums g 4), (18, isI fun _ => True), (19, isRowPt g5), (20, isNumPt g5)] (.k (.d (.k (.d (.k (.k (.d (.d (.d (.d (.d .n))))))))))) (.d (.k (.d (.k (.d (.d (.k (.k (.k (.k (.d .n))))))))))) (stD g b n c) ⟨mono_isN _ _, mono_isN _ _, mono_nums _ _ _ _ _, mono_isI _ _, mono_rowPt _ _, mono_numPt _ _, trivial⟩ ?_
    apply Exists.intro
    refine ⟨fun W0 hk G => ?_, ?_⟩
    · repeat (first | go_big_quiet_skip | (go_big_quiet_want; first | (refine q_loadS ?_; simp only [Act.put, List.setIfInBounds_toArray, List.set_cons_zero, List.set_cons_succ]; go_big_quiet_on) | (refine q_load ?_; simp only [Act.put, List.setIfInBounds_toArray, List.set_cons_zero, List.set_cons_succ]; go_big_quiet_on) | (go_big_quiet_op; first | go_big_quiet_on)))
      exact rfl
    refine dr_step (fun W hW hr => ?_) (fun v1 => ?_)
    · have hs := hW.src hS2
      go_wp2_with (first | (go_at_call 46; (with_reducible refine (Next_S g b n c 3 _ hs (by decide)).mono ?_); rintro e w3 ⟨r, rfl, hr3, hD3⟩))
      exact ⟨rfl, _, rfl, hD3.st, r, rfl, by omega⟩
    refine dr_step (fun W hW hr => ?_) (fun v2 => ?_)
    · have hs := hW.src hS2
      go_wp2_with (first | (go_at_call 46; (with_reducible refine (Next_S g b n c 3 _ hs (by decide)).mono ?_); rintro e w3 ⟨r, rfl, hr3, hD3⟩))
      exact ⟨rfl, _, rfl, hD3.st, r, rfl, by omega⟩
    refine dr_step (fun W hW hr => ?_) (fun v3 => ?_)
    · have hs := hW.src hS2
      have hgW := hs.lt
      go_wp2
      refine ⟨rfl, _, rfl, LowK.st findLow, W.heap.size, rfl, by omega, NumK.l4 (a := 0) (b := 1) (c := p) (d := -1) findRow⟩
    refine dr_step (fun W hW hr => ?_) (fun v4 => ?_)
    · have hs := hW.src hS2
      obtain ⟨h, rfl, hne, hN⟩ := hr 17 rfl rfl
      go_wp2_with (first | (go_at_call 66; (with_reducible refine (Pick_S g b n c _ 4 _ _ hs hN (by decide) (by decide)).mono ?_); rintro e w3 ⟨r, rfl, hD3⟩))
      exact ⟨rfl, _, rfl, hD3.st, r, rfl, trivial⟩
    refine dr_step (fun W hW hr => ?_) (fun v5 => ?_)
    · obtain ⟨r, rfl, hr3⟩ := hr 12 rfl rfl
      go_wp2
      exact ⟨rfl, _, rfl, StD.refl, r, rfl, hr3⟩
    refine dr_step (fun W hW hr => ?_) (fun v6 => ?_)
    · obtain ⟨r, rfl, hr3⟩ := hr 14 rfl rfl
      obtain ⟨i, rfl, hi3⟩ := hr 19 rfl rfl
      go_wp2
      exact ⟨rfl, _, rfl, StD.refl, _, rfl, by omega⟩
    refine dr_nil fun W hW hp => ?_
    simp [Act.put, PastR, relOf] at hp
    obtain ⟨-, -, -, ⟨x, rfl, -⟩, -, ⟨o, rfl, ho9⟩⟩ := hp
    (try simp only [List.drop_succ_cons, List.drop_zero])
    conv => arg 5; simp [Act.put]
    have hS3 := hW.src hS2
    have m6 : MapP (fun _ => True) W g5 := MapP.but hW.but (by omega) m5
    have p6 := RowK.std hW (by omega) q6
    have hB3 := hW.but.tr hD2.but
    have hbb : ∀ a, b = some a → a.block ≠ g5 := fun a ha => by have := hb a ha; omega
    refine wl_storeS (hS := m6.st ho9) ?_
    obtain ⟨t, q5', -⟩ := (m6.set ho9 (r := x) trivial).get
    have p6' : RowK (W.setCell ⟨g5, o, none⟩ (.int .i64 x)) g6 (mC m0) 47 := RowK.setO (by omega) p6
    have hS4 : SrcK (W.setCell ⟨g5, o, none⟩ (.int .i64 x)) g b n c := SrcK.setC (by omega) hbb hS3
    have hB4 : ButK g w (W.setCell ⟨g5, o, none⟩ (.int .i64 x)) := ButK.setCNew _ _ hw5 hB3
    clear m6 m5 q5 q6 hW hS3 hB3 p6 hS2
    go_wp2_with (first | (refine wl_load ?_) | (refine wl_store (h1 := mC_one _) ?_))
    exact ret_row Try.results47 rfl (show RowK ((W.setCell ⟨g5, o, none⟩ (.int .i64 x)).setRow g6 (mC t)) g6 (mC t) 47 from findRow) 9 rfl Try.sizeOf47 Try.isAgg47 rfl ⟨t, rfl, SrcK.setRow (by omega) (fun a ha => by have := hb a ha; omega) hS4, ButK.setNew (by omega) hB4⟩
  · exact ret_row Try.results47 rfl (show RowK ((w2.setRow g5 (mC (m.1, m.2.1, m.2.1))).setRow g6 (mC (m.1, m.2.1, m.2.1))) g6 (mC (m.1, m.2.1, m.2.1)) 47 from findRow) 9 rfl Try.sizeOf47 Try.isAgg47 rfl ⟨(m.1, m.2.1, m.2.1), rfl, SrcK.setRow (by omega) (fun a ha => by have := hb a ha; omega) (SrcK.setRow (by omega) (fun a ha => by have := hb a ha; omega) hD2.src), ButK.setNew (by omega) (ButK.setNew (by omega) hD2.but)⟩
  · exact ret_row Try.results47 rfl (show RowK (w2.setRow g6 (mC m)) g6 (mC m) 47 from findRow) 9 rfl Try.sizeOf47 Try.isAgg47 rfl ⟨m, rfl, SrcK.setRow (by omega) (fun a ha => by have := hb a ha; omega) hD2.src, ButK.setNew (by omega) hD2.but⟩
end Go.Proofs.Ytnpmdchphaenaaa
/- Contracts: points that are drawn. -- draws -/
namespace Go.Proofs.Ytnpmdchphaenaaa
open Go.RowKit
set_option linter.unusedVariables false
set_option linter.unusedSimpArgs false
/-- A block of three numbers. -/
structure PntP (W : World) (g : Nat) : Prop where
  out : ∃ cs, RowK W g cs 34 ∧ cs.size = 3 ∧ ∀ k, k < 3 → ∃ r, cs[k]? = some (.int .i64 r)
theorem PntP.link {W W' : World} {g : Nat} (l : Link W W') (h : PntP W g) : PntP W' g := by
  obtain ⟨cs, h1, h2⟩ := h.out
  exact ⟨cs, h1.link l, h2⟩
theorem PntP.set {W : World} {g k : Nat} {r : Int} (h : PntP W g) (hk : k < 3) : PntP (W.setCell ⟨g, k, none⟩ (.int .i64 r)) g := by
  obtain ⟨cs, h1, h2, h3⟩ := h.out
  refine ⟨cs.setIfInBounds k (.int .i64 r), h1.setC _, by simpa using h2, fun j hj => ?_⟩
  by_cases e : k = j
  · subst e
    exact ⟨r, by simp [h2, hk]⟩
  · obtain ⟨x, hx⟩ := h3 j hj
    exact ⟨x, by rw [Array.getElem?_setIfInBounds_ne e]; exact hx⟩
theorem PntP.get {W : World} {g : Nat} (h : PntP W g) : ∃ t : Pt, RowK W g (pC t) 34 := by
  obtain ⟨cs, h1, h2, h3⟩ := h.out
  obtain ⟨r0, e0⟩ := h3 0 (by decide)
  obtain ⟨r1, e1⟩ := h3 1 (by decide)
  obtain ⟨r2, e2⟩ := h3 2 (by decide)
  have e : cs = pC (r0, r1, r2) := by
    apply Array.ext_getElem?
    intro i
    by_cases hi : i < 3
    · rcases (show i = 0 ∨ i = 1 ∨ i = 2 by omega) with rfl | rfl | rfl
      · rw [e0]; rfl
      · rw [e1]; rfl
      · rw [e2]; rfl
    · rw [Array.getElem?_eq_none (by omega), Array.getElem?_eq_none (by show 3 ≤ i; omega)]
  rw [e] at h1
  exact ⟨_, h1⟩
theorem PntP.of {W : World} {g : Nat} {t : Pt} (h : RowK W g (pC t) 34) : PntP W g := by
  refine ⟨pC t, h, rfl, fun k hk => ?_⟩
  rcases (show k = 0 ∨ k = 1 ∨ k = 2 by omega) with rfl | rfl | rfl <;> exact ⟨_, rfl⟩
theorem PntP.st {W : World} {g k : Nat} (h : PntP W g) (hk : k < 3) : StK W g k := by
  obtain ⟨cs, h1, h2, -⟩ := h.out
  exact h1.stAt (by omega)
theorem PntP.but {g : Nat} {W W' : World} {gl : Nat} (hB : ButK g W W') (hne : gl ≠ g) (h : PntP W gl) : PntP W' gl := by
  obtain ⟨cs, h1, h2⟩ := h.out
  exact ⟨cs, h1.but hB hne, h2⟩
set_option pp.deepTerms false
set_option pp.deepTerms.threshold 10
set_option maxRecDepth 20000 in
set_option maxHeartbeats 16000000 in
theorem Sum_E (p : Int) (x y : Pt) (s t : Int) (w : World) (hp : prB p = true) : Calls Try.prog 69 #[.int .i64 p, pV x, pV y, .int .i64 s, .int .i64 t] w (fun e W => ∃ t, e = .returned (pV t) ∧ LowK w W) := by
  go_enter Try.func69, Try.ntmps69
  go_wp2_with (first | (refine wl_store ?_) | (refine wl_load ?_))
  have r6 : RowK (((((w.alloc (.cells (pC x) 34)).alloc (.cells (pC y) 34)).alloc (.cells #[.int .i64 0, .int .i64 0, .int .i64 0] 34)).alloc (.cells #[.int .i64 0, .int .i64 0, .int .i64 0] 34)).setRow (w.heap.size + 1 + 1 + 1) #[.int .i64 0, .int .i64 0, .int .i64 0]) w.heap.size (pC x) 34 := findRow
  have r7 : RowK (((((w.alloc (.cells (pC x) 34)).alloc (.cells (pC y) 34)).alloc (.cells #[.int .i64 0, .int .i64 0, .int .i64 0] 34)).alloc (.cells #[.int .i64 0, .int .i64 0, .int .i64 0] 34)).setRow (w.heap.size + 1 + 1 + 1) #[.int .i64 0, .int .i64 0, .int .i64 0]) (w.heap.size + 1) (pC y) 34 := findRow
  have r10 : RowK (((((w.alloc (.cells (pC x) 34)).alloc (.cells (pC y) 34)).alloc (.cells #[.int .i64 0, .int .i64 0, .int .i64 0] 34)).alloc (.cells #[.int .i64 0, .int .i64 0, .int .i64 0] 34)).setRow (w.heap.size + 1 + 1 + 1) #[.int .i64 0, .int .i64 0, .int .i64 0]) (w.heap.size + 1 + 1) (pC (0, 0, 0)) 34 := (show RowK _ _ #[.int .i64 0, .int .i64 0, .int .i64 0] _ from findRow)
  have r11 : RowK (((((w.alloc (.cells (pC x) 34)).alloc (.cells (pC y) 34)).alloc (.cells #[.int .i64 0, .int .i64 0, .int .i64 0] 34)).alloc (.cells #[.int .i64 0, .int .i64 0, .int .i64 0] 34)).setRow (w.heap.size + 1 + 1 + 1) #[.int .i64 0, .int .i64 0, .int .i64 0]) (w.heap.size + 1 + 1 + 1) (pC (0, 0, 0)) 34 := (show RowK _ _ #[.int .i64 0, .int .i64 0, .int .i64 0] _ from findRow)
  have hV : LowK w (((((w.alloc (.cells (pC x) 34)).alloc (.cells (pC y) 34)).alloc (.cells #[.int .i64 0, .int .i64 0, .int .i64 0] 34)).alloc (.cells #[.int .i64 0, .int .i64 0, .int .i64 0] 34)).setRow (w.heap.size + 1 + 1 + 1) #[.int .i64 0, .int .i64 0, .int .i64 0]) := findLow
  generalize (((((w.alloc (.cells (pC x) 34)).alloc (.cells (pC y) 34)).alloc (.cells #[.int .i64 0, .int .i64 0, .int .i64 0] 34)).alloc (.cells #[.int .i64 0, .int .i64 0, .int .i64 0] 34)).setRow (w.heap.size + 1 + 1 + 1) #[.int .i64 0, .int .i64 0, .int .i64 0]) = W2 at *
  obtain ⟨g6, hg6⟩ : ∃ g6, w.heap.size = g6 := ⟨_, rfl⟩
  have hw6 := Nat.le_of_eq hg6
  rw [hg6] at r6 r7 r10 r11 ⊢
  clear hg6
  obtain ⟨g7, hg7⟩ : ∃ g7, g6 + 1 = g7 := ⟨_, rfl⟩
  have hl7 : g6 < g7 := by omega
  rw [hg7] at r7 r10 r11 ⊢
  clear hg7
  obtain ⟨g10, hg10⟩ : ∃ g10, g7 + 1 = g10 := ⟨_, rfl⟩
  have hl10 : g7 < g10 := by omega
  rw [hg10] at r10 r11 ⊢
  clear hg10
  obtain ⟨g11, hg11⟩ : ∃ g11, g10 + 1 = g11 := ⟨_, rfl⟩
  have hl11 : g10 < g11 := by omega
  rw [hg11] at r11 ⊢
  clear hg11
  have hZ : PntP W2 g11 := PntP.of r11
  clear r11
  go_loopw [12] (fun iv wr => ∃ i : Nat, i ≤ 3 ∧ iv = .int .i64 (i : Int) ∧ PntP wr g11 ∧ ButK g11 W2 wr) (fun iv wr => 3 - (intOf iv).toNat)
  case atStart => exact ⟨0, by decide, rfl, hZ, ButK.refl _ _⟩
  case round =>
    clear hZ
    obtain ⟨i, hi, rfl, hZ, hB⟩ := hrel
    have q6 := RowK.but hB (by omega) r6
    have q7 := RowK.but hB (by omega) r7
    by_cases hlt : i < 3
    · have c0 : CellK wr g6 0 (.int .i64 x.1) := q6.cellAt rfl
      have c1 : CellK wr g6 1 (.int .i64 x.2.1) := q6.cellAt rfl
      have c2 : CellK wr g6 2 (.int .i64 x.2.2) := q6.cellAt rfl
      have d0 : CellK wr g7 0 (.int .i64 y.1) := q7.cellAt rfl
      have d1 : CellK wr g7 1 (.int .i64 y.2.1) := q7.cellAt rfl
      have d2 : CellK wr g7 2 (.int .i64 y.2.2) := q7.cellAt rfl
      rcases (show i = 0 ∨ i = 1 ∨ i = 2 by omega) with rfl | rfl | rfl
      all_goals
        go_wp2_with (first | (refine wl_loadS ?_) | (with_reducible refine hold (p := wpList _ _ _ ({ dst := none, op := .store _ _ _, type := _, pos := _, after := _, guard := _ } :: _) _ _) ?_) | ((with_reducible apply region_gd (id := 5)); refine region_QA (id := 5) 15 ?_; apply Exists.intro; refine ⟨fun G => ?_, fun W hl => ?_⟩; (· (simp only [List.take_succ_cons, List.take_zero]; (repeat (first | go_big_quiet_skip | (go_big_quiet_want; first | (refine q_loadS ?_; simp only [Act.put, List.setIfInBounds_toArray, List.set_cons_zero, List.set_cons_succ]; go_big_quiet_on) | (refine q_load ?_; simp only [Act.put, List.setIfInBounds_toArray, List.set_cons_zero, List.set_cons_succ]; go_big_quiet_on) | (go_big_quiet_op; first | go_big_quiet_on | (apply Exists.intro; refine ⟨fun g => ?_, ?_⟩; (· (have hl := growL g; first | (go_at_call 68; with_reducible exact grow_ret (Mod_W p _ _ hp)))); go_big_quiet_on))))); exact rfl)); have hs := hl.out.size; (try simp at hs); simp only [List.drop_succ_cons, List.drop_zero]))
        unfold Hold
        have hlow : LowK wr W := findLow
        refine wl_storeS (hS := (hZ.link (LowK.lnk hlow)).st (by decide)) ?_
        have hB2 := hB.low hlow
        go_wp2
        go_roundw
        case rel => first | exact ⟨1, by decide, (by first | rfl | go_num), (hZ.link (LowK.lnk hlow)).set (by decide), hB2.set _ _⟩ | exact ⟨2, by decide, (by first | rfl | go_num), (hZ.link (LowK.lnk hlow)).set (by decide), hB2.set _ _⟩ | exact ⟨3, by decide, (by first | rfl | go_num), (hZ.link (LowK.lnk hlow)).set (by decide), hB2.set _ _⟩
        case measure => (simp [intOf]; try omega)
    · obtain rfl : i = 3 := by omega
      obtain ⟨t, ht⟩ := hZ.get
      have hr10 := RowK.but hB (by omega) r10
      have hVr := LowK.but hB (by omega) hV
      go_wp2_with (first | (refine wl_load ?_) | (refine wl_store ?_))
      have hlow : LowK w (wr.setRow g10 (pC t)) := findLow
      have hg : RowK (wr.setRow g10 (pC t)) g10 (pC t) 34 := findRow
      exact ret_row Try.results69 rfl hg 3 rfl Try.sizeOf34 Try.isAgg34 rfl ⟨t, rfl, hlow⟩
set_option maxRecDepth 20000 in
set_option maxHeartbeats 16000000 in
theorem DrawPoint_E (g : Nat) (b : Option Addr) (n c : Nat) (p : Int) (w : World) (hS : SrcK w g b n c) (hb : ∀ a, b = some a → a.block < w.heap.size) :
    Calls Try.prog 29 #[.pointer (some ⟨g, 0, none⟩), .int .i64 p] w (fun e W => ∃ t, e = .returned (pV t) ∧ Drew g b n c w W) := by
  have hgl := hS.lt
  go_enter Try.func29, Try.ntmps29
  go_wp2_with (first | (refine wl_store ?_) | (refine wl_load ?_) | (go_at_call 28; (with_reducible refine (Fine_S p _).mono ?_); rintro e w1 ⟨q, rfl, hq, hl1⟩; obtain ⟨m, rfl⟩ : ∃ m : Nat, q = (m : Int) := ⟨q.toNat, by have := prB_bd hq; omega⟩; have hqb := prB_bd hq) | (go_at_call 18; (with_reducible refine (l01Points_K m _ ⟨by omega, by omega⟩).mono ?_); rintro e w2 ⟨gp, cp, rfl, hp0, hp1, hpt, hl2⟩) | (go_at_call 46; have r4 : RowK (w.alloc (.cells #[.int .i64 0, .int .i64 0, .int .i64 0] 34)) w.heap.size #[.int .i64 0, .int .i64 0, .int .i64 0] 34 := findRow; have hV : LowK w w2 := (LowK.link (LowK.lnk hl2) (LowK.link (LowK.lnk hl1) (show LowK w (w.alloc (.cells #[.int .i64 0, .int .i64 0, .int .i64 0] 34)) from findLow))); have q4 := (r4.link (LowK.lnk hl1)).link (LowK.lnk hl2); (with_reducible refine (Next_S g b n c ((allP m).length : Nat) _ (hS.link (LowK.lnk hV)) (by have := allP_length m; omega)).mono ?_); rintro e w3 ⟨r, rfl, hr, hD⟩; have p3 := hpt.but hD.but (by have := LowK.size hl1; simp at this; omega); have q5 := RowK.but hD.but (by omega) q4; have hD3 : Drew g b n c w w3 := ((Drew.refl hS).low hV).tr hD; have hr3 : r < (allP m).length := (by omega)))
  exact ret_row Try.results29 rfl (show RowK (w3.setRow w.heap.size (pC ((allP m).getD r (0, 0, 0)))) w.heap.size (pC ((allP m).getD r (0, 0, 0))) 34 from findRow) 3 rfl Try.sizeOf34 Try.isAgg34 rfl ⟨(allP m).getD r (0, 0, 0), rfl, SrcK.setRow (by omega) (fun a ha => by have := hb a ha; omega) hD3.src, ButK.setNew (by omega) hD3.but⟩
def isPv : Value → World → Prop := fun v _ => ∃ t : Pt, v = pV t
theorem mono_pv (St : World → World → Prop) : MonoS St isPv := ⟨fun _ _ _ h _ => h⟩
set_option maxRecDepth 20000 in
set_option maxHeartbeats 16000000 in
theorem BadPoint_E (g : Nat) (b : Option Addr) (n c : Nat) (p : Int) (x : Pt) (w : World) (hS : SrcK w g b n c) (hb : ∀ a, b = some a → a.block < w.heap.size) :
    Calls Try.prog 50 #[.pointer (some ⟨g, 0, none⟩), .int .i64 p, pV x] w (fun e W => ∃ t, e = .returned (pV t) ∧ Drew g b n c w W) := by
  have hgl := hS.lt
  go_enter Try.func50, Try.ntmps50
  have tok : True := trivial
  go_wp2_with (first | (have _t := tok; go_at_call 46; have r5 : RowK ((w.alloc (.cells (pC x) 34)).alloc (.cells #[.int .i64 0, .int .i64 0, .int .i64 0] 34)) w.heap.size (pC x) 34 := findRow; have r6 : RowK ((w.alloc (.cells (pC x) 34)).alloc (.cells #[.int .i64 0, .int .i64 0, .int .i64 0] 34)) (w.heap.size + 1) (pC (0, 0, 0)) 34 := (show RowK _ _ #[.int .i64 0, .int .i64 0, .int .i64 0] _ from findRow); have hV : LowK w ((w.alloc (.cells (pC x) 34)).alloc (.cells #[.int .i64 0, .int .i64 0, .int .i64 0] 34)) := findLow; (with_reducible refine (Next_S g b n c 50 _ (hS.link (LowK.lnk hV)) (by decide)).mono ?_); rintro e w2 ⟨k0, rfl, hk0, hD⟩; have q5 := RowK.but hD.but (by omega) r5; have q6 := RowK.but hD.but (by omega) r6; have hD2 : Drew g b n c w w2 := ((Drew.refl hS).low hV).tr hD; have hS2 := hD2.src; obtain ⟨g5, hg5⟩ : ∃ g5, w.heap.size = g5 := ⟨_, rfl⟩; have hw5 := Nat.le_of_eq hg5; rw [hg5] at q5 q6 ⊢; have hgl5 : g < g5 := (by omega); obtain ⟨g6, hg6⟩ : ∃ g6, g5 + 1 = g6 := ⟨_, rfl⟩; have hl6 : g5 < g6 := (by omega); rw [hg6] at q6 ⊢; clear hg5 hg6 r5 r6 hV hD tok) | (go_at_call 46; (with_reducible refine (Next_S g b n c 3 _ hS2 (by decide)).mono ?_); rintro e w3 ⟨r, rfl, hr, hD3⟩; have hr3 : r < 3 := (by omega); have m3 : PntP w3 g5 := PntP.of (RowK.but hD3.but (by omega) q5); have p6 := RowK.but hD3.but (by omega) q6) | (go_at_call 66; have hV4 : LowK w3 (w3.alloc (.cells #[.int .i64 p, .int .i64 (-1), .int .i64 2, .int .i64 1099511627776] 2)) := findLow; (with_reducible refine (Pick_S g b n c _ 4 _ _ (hD3.src.link (LowK.lnk hV4)) (NumK.l4 findRow) (by decide) (by decide)).mono ?_); rintro e w4 ⟨v, rfl, hD4⟩; have m4 : PntP w4 g5 := PntP.but hD4.but (by omega) (m3.link (LowK.lnk hV4)); have p7 := RowK.but hD4.but (by omega) (p6.link (LowK.lnk hV4)); have hD5 : Drew g b n c w w4 := ((hD2.tr hD3).low hV4).tr hD4) | (refine wl_storeS (hS := m4.st hr3) ?_; obtain ⟨y, q5'⟩ := (m4.set hr3 (r := v)).get; have p8 : RowK (w4.setCell ⟨g5, r, none⟩ (.int .i64 v)) g6 (pC (0, 0, 0)) 34 := RowK.setO (by omega) p7) | (refine wl_load ?_) | (refine wl_build ?_) | (refine wl_store ?_))
  · exact ret_row Try.results50 rfl (show RowK (w2.setRow g6 (pC (0, 0, 0))) g6 (pC (0, 0, 0)) 34 from findRow) 3 rfl Try.sizeOf34 Try.isAgg34 rfl ⟨(0, 0, 0), rfl, SrcK.setRow (by omega) (fun a ha => by have := hb a ha; omega) hS2, ButK.setNew (by omega) hD2.but⟩
  · have hg : RowK ((w4.setCell ⟨g5, r, none⟩ (.int .i64 v)).setRow g6 (pC y)) g6 (pC y) 34 := findRow
    exact ret_row Try.results50 rfl hg 3 rfl Try.sizeOf34 Try.isAgg34 rfl ⟨y, rfl, SrcK.setRow (by omega) (fun a ha => by have := hb a ha; omega) (SrcK.setC (by omega) (fun a ha => by have := hb a ha; omega) hD5.src), ButK.setNew (by omega) (ButK.setCNew _ _ hw5 hD5.but)⟩
  · rename_i hi1 hi2 hi3 _ _
    clear hi1 hi2 hi3
    refine region_DR (id := 7) 5 [1, 4] (StD g b n c) [(24, isI fun q => prB q = true), (27, isPv)] (.k (.d (.k (.k (.d (.d .n)))))) (.d (.k (.d (.d (.k (.d .n)))))) (stD g b n c) ⟨mono_isI _ _, mono_pv _, trivial⟩ ?_
    apply Exists.intro
    refine ⟨fun W0 hk G => ?_, ?_⟩
    · have k5 := RowK.std hk (by omega) q5
      repeat (first | go_big_quiet_skip | (go_big_quiet_want; first | (refine q_loadS ?_; simp only [Act.put, List.setIfInBounds_toArray, List.set_cons_zero, List.set_cons_succ]; go_big_quiet_on) | (refine q_load ?_; simp only [Act.put, List.setIfInBounds_toArray, List.set_cons_zero, List.set_cons_succ]; go_big_quiet_on) | (go_big_quiet_op; first | go_big_quiet_on)))
      exact rfl
    refine dr_step (fun W hW hr => ?_) (fun v1 => ?_)
    · go_wp2_with (first | (go_at_call 28; (with_reducible refine (Fine_S p _).mono ?_); rintro e w3 ⟨q, rfl, hq, hl3⟩))
      exact ⟨rfl, _, rfl, hl3.st, q, rfl, hq⟩
    refine dr_step (fun W hW hr => ?_) (fun v2 => ?_)
    · obtain ⟨q, rfl, hq⟩ := hr 24 rfl rfl
      go_wp2_with (first | (go_at_call 69; (with_reducible refine (Sum_E q x x 1 1 _ hq).mono ?_); rintro e w3 ⟨t, rfl, hl3⟩))
      exact ⟨rfl, _, rfl, hl3.st, t, rfl⟩
    refine dr_nil fun W hW hp => ?_
    simp [Act.put, PastR, relOf] at hp
    obtain ⟨-, ⟨y, rfl⟩⟩ := hp
    (try simp only [List.drop_succ_cons, List.drop_zero])
    conv => arg 5; simp [Act.put]
    have p6 := RowK.std hW (by omega) q6
    have hD3 : Drew g b n c w W := hD2.tr (hW.drew hS2)
    go_wp2_with (first | (refine wl_load ?_) | (refine wl_store ?_))
    have hg : RowK (W.setRow g6 (pC y)) g6 (pC y) 34 := findRow
    exact ret_row Try.results50 rfl hg 3 rfl Try.sizeOf34 Try.isAgg34 rfl ⟨y, rfl, SrcK.setRow (by omega) (fun a ha => by have := hb a ha; omega) hD3.src, ButK.setNew (by omega) hD3.but⟩
  · exact ret_row Try.results50 rfl (show RowK (w2.setRow g6 (pC x)) g6 (pC x) 34 from findRow) 3 rfl Try.sizeOf34 Try.isAgg34 rfl ⟨x, rfl, SrcK.setRow (by omega) (fun a ha => by have := hb a ha; omega) hS2, ButK.setNew (by omega) hD2.but⟩
set_option maxRecDepth 20000 in
set_option maxHeartbeats 16000000 in
theorem SpoilPoint_E (g : Nat) (b : Option Addr) (n c : Nat) (p : Int) (w : World) (hS : SrcK w g b n c) (hb : ∀ a, b = some a → a.block < w.heap.size) :
    Calls Try.prog 30 #[.pointer (some ⟨g, 0, none⟩), .int .i64 p] w (fun e W => ∃ t, e = .returned (pV t) ∧ Drew g b n c w W) := by
  have hgl := hS.lt
  go_enter Try.func30, Try.ntmps30
  go_wp2_with (first | (refine wl_store ?_) | (go_at_call 29; have r4 : RowK (w.alloc (.cells #[.int .i64 0, .int .i64 0, .int .i64 0] 34)) w.heap.size (pC (0, 0, 0)) 34 := (show RowK _ _ #[.int .i64 0, .int .i64 0, .int .i64 0] _ from findRow); have hV : LowK w (w.alloc (.cells #[.int .i64 0, .int .i64 0, .int .i64 0] 34)) := findLow; have hz := LowK.size hV; (with_reducible refine (DrawPoint_E g b n c p _ (hS.link (LowK.lnk hV)) (fun a ha => by have := hb a ha; omega)).mono ?_); rintro e w2 ⟨x, rfl, hD⟩; have q4 := RowK.but hD.but (by omega) r4; have hD2 : Drew g b n c w w2 := ((Drew.refl hS).low hV).tr hD; clear r4) | (go_at_call 50; (with_reducible refine (BadPoint_E g b n c p x _ hD2.src (fun a ha => by have := hb a ha; have := hD2.but.size; omega)).mono ?_); rintro e w3 ⟨y, rfl, hD3⟩; have q5 := RowK.but hD3.but (by omega) q4; have hD4 := hD2.tr hD3))
  have hg : RowK (w3.setRow w.heap.size (pC y)) w.heap.size (pC y) 34 := findRow
  exact ret_row Try.results30 rfl hg 3 rfl Try.sizeOf34 Try.isAgg34 rfl ⟨y, rfl, SrcK.setRow (by omega) (fun a ha => by have := hb a ha; omega) hD4.src, ButK.setNew (by omega) hD4.but⟩
end Go.Proofs.Ytnpmdchphaenaaa
/- Contracts: lists of maps that are drawn. -- draws -- own lists -/
namespace Go.Proofs.Ytnpmdchphaenaaa
open Go.RowKit
set_option linter.unusedVariables false
set_option linter.unusedSimpArgs false
theorem OwnK.but {g : Nat} {W W' : World} {B : Nat} {T : TypeId} {sz : Nat} {v : Value} {n : Nat} {xs : List Value} (h : OwnK W B T sz v n xs) (hB : ButK g W W') (hg : g < B) : OwnK W' B T sz v n xs :=
  ⟨own_same h.out fun b hb => hB.out.2.1 b (own_lt h.out b hb) (fun e => by have := own_base' h.out b hb; omega)⟩
theorem ButK.grew {g : Nat} {w W W' : World} {u : Value} (h : ButK g w W) (hg : Grew W u W') (hu : ∀ b, u.ownBlock = some b → w.heap.size ≤ b) : ButK g w W' := by
  obtain ⟨h1, h2, h3, h4, h5⟩ := h.out
  exact ⟨Nat.le_trans h1 hg.size, fun b hb hne => (hg.out.block b (by omega) (fun e => by have := hu b e.symm; omega)).trans (h2 b hb hne), hg.out.os.trans h3, hg.out.tape.trans h4, hg.out.output.trans h5⟩
theorem SrcK.grew {W W' : World} {g n c : Nat} {b : Option Addr} {u : Value} (h : SrcK W g b n c) (hg : Grew W u W') (hu : Off u g) (hub : ∀ a, b = some a → Off u a.block) : SrcK W' g b n c := by
  obtain ⟨a, x, hr, h1⟩ := h.row
  refine ⟨⟨a, x, hr.grew hg hu, h1⟩, fun hn => ?_, h.ne, h.le⟩
  obtain ⟨gb, o, e, hc⟩ := h.code hn
  exact ⟨gb, o, e, fun i hi => by obtain ⟨x, h1, h2⟩ := hc i hi; exact ⟨x, cell_grew hg (hub _ e) h1, h2⟩⟩
/-- An own list of maps as an argument. -/
theorem OwnK.listM {W : World} {B : Nat} {v : Value} {n : Nat} {l : List M9} (h : OwnK W B 47 9 v n (mCs l)) (hl : l.length = n) : ∃ b c, v = .slice b n c ∧ ListM W b n l ∧ ∀ a, b = some a → B ≤ a.block := by
  rcases Nat.eq_zero_or_pos n with h0 | h0
  · subst h0
    rcases h.out.2 with ⟨e, _⟩ | ⟨g, cap, cur, rfl, hb, hg, _⟩
    · exact ⟨none, 0, e, ⟨hl, fun h => absurd h (Nat.lt_irrefl _)⟩, fun a ha => by cases ha⟩
    · exact ⟨_, cap, rfl, ⟨hl, fun h => absurd h (Nat.lt_irrefl _)⟩, fun a ha => by cases ha; exact hb⟩
  · obtain ⟨g, cap, rfl, h1, h2, h3⟩ := h.maps hl h0
    exact ⟨_, cap, rfl, ⟨hl, fun _ => ⟨g, 0, rfl, h3⟩⟩, fun a ha => by cases ha; exact h1⟩
/-- A slice of one map in a block of its own. -/
def isOne (g : Nat) : Value → World → Prop := fun v W => ∃ h t, v = .slice (some ⟨h, 0, none⟩) 1 1 ∧ h ≠ g ∧ RowK W h (mC t) 47
theorem mono_one (g : Nat) (b : Option Addr) (n c : Nat) : MonoS (StD g b n c) (isOne g) := ⟨fun v W W' h st => by obtain ⟨a, t, e, h1, h2⟩ := h; exact ⟨a, t, e, h1, RowK.std st h1 h2⟩⟩
def isMap (Pm : M9 → Prop) : Value → World → Prop := fun v _ => ∃ t : M9, v = mV t ∧ Pm t
theorem mono_map (St : World → World → Prop) (Pm : M9 → Prop) : MonoS St (isMap Pm) := ⟨fun _ _ _ h _ => h⟩
set_option pp.deepTerms false
set_option pp.deepTerms.threshold 10
set_option maxRecDepth 20000 in
set_option maxHeartbeats 16000000 in
theorem DrawMaps_E (g : Nat) (b : Option Addr) (n c : Nat) (w : World) (hS : SrcK w g b n c) (hb : ∀ a, b = some a → a.block < w.heap.size) :
    Calls Try.prog 27 #[.pointer (some ⟨g, 0, none⟩)] w (fun e W => ∃ (p : Int) (v : Value) (L : List M9), e = .returned (.tuple #[.int .i64 p, v]) ∧ OwnK W w.heap.size 47 9 v L.length (mCs L) ∧ L.length ≤ 9 ∧ Drew g b n c w W) := by
  have hgl := hS.lt
  go_enter Try.func27, Try.ntmps27
  have tok : True := trivial
  go_wp2_with (first | (go_at_call 44; (with_reducible refine (Few_S g b n c _ hS).mono ?_); rintro e w1 ⟨p, rfl, hD1⟩) | (go_at_call 28; (with_reducible refine (Fine_S p _).mono ?_); rintro e w2 ⟨q, rfl, hq, hl2⟩; have hD2 := hD1.low hl2) | (go_at_call 45; have r0 : RowK (w2.alloc (.cells #[] 47)) w2.heap.size #[] 47 := findRow; have hD2' := hD2.low (show LowK w2 (w2.alloc (.cells #[] 47)) from findLow); (with_reducible refine (DrawMap_E g b n c q _ hD2'.src (fun a ha => by have := hb a ha; have := hD2'.but.size; omega) hq).mono ?_); rintro e w3 ⟨m, rfl, hm, hD3⟩; have hO3 : OwnK w3 w.heap.size 47 9 (.slice (some ⟨w2.heap.size, 0, none⟩) 0 0) 0 (mCs []) := OwnK.but (OwnK.empty r0 hD2.but.size) hD3.but hgl; have hD3' := hD2'.tr hD3) | (refine wl_store (h1 := mC_one _) ?_) | (have _t := tok; go_at_call 46; have r7 : RowK ((w3.alloc (.cells #[.int .i64 0, .int .i64 0, .int .i64 0, .int .i64 0, .int .i64 0, .int .i64 0, .int .i64 0, .int .i64 0, .int .i64 0] 47)).setRow w3.heap.size (mC m)) w3.heap.size (mC m) 47 := findRow; have hV : LowK w3 ((w3.alloc (.cells #[.int .i64 0, .int .i64 0, .int .i64 0, .int .i64 0, .int .i64 0, .int .i64 0, .int .i64 0, .int .i64 0, .int .i64 0] 47)).setRow w3.heap.size (mC m)) := (show LowK w3 ((w3.alloc (.cells #[.int .i64 0, .int .i64 0, .int .i64 0, .int .i64 0, .int .i64 0, .int .i64 0, .int .i64 0, .int .i64 0, .int .i64 0] 47)).setRow w3.heap.size (mC m)) from LowK.set (Nat.le_refl _) (LowK.alloc (LowK.refl _) _)); have hO4 := OwnK.set (OwnK.alloc hO3 (.cells #[.int .i64 0, .int .i64 0, .int .i64 0, .int .i64 0, .int .i64 0, .int .i64 0, .int .i64 0, .int .i64 0, .int .i64 0] 47)) (U := mC m) (Off.above hO3 (Nat.le_refl _)); have hD4 := hD3'.low hV; have hg7 := hD3'.but.size; (with_reducible refine (Next_S g b n c 4 _ hD4.src (by decide)).mono ?_); rintro e w4 ⟨k1, rfl, hk1, hD5⟩; have q7 := RowK.but hD5.but (by omega) r7; have hO5 := OwnK.but hO4 hD5.but hgl; have hD6 := hD4.tr hD5; have hof : Off (.slice (some ⟨w2.heap.size, 0, none⟩) 0 0) w3.heap.size := Off.above hO3 (Nat.le_refl _); generalize w3.heap.size = g7 at *; clear r7 hV hO3 hO4 hD3' hD4 hD5 tok) | (go_at_call 46; (with_reducible refine (Next_S g b n c 40 _ hD6.src (by decide)).mono ?_); rintro e w5 ⟨k2, rfl, hk2, hD7⟩; have p7 := RowK.but hD7.but (by omega) q7; have hO6 := OwnK.but hO5 hD7.but hgl; have hD8 := hD6.tr hD7))
  generalize hv0 : (Value.slice (some ⟨w2.heap.size, 0, none⟩) 0 0) = v0 at *
  have hk1' : k1 < 4 := by omega
  have hk2' : k2 < 40 := by omega
  clear hk1 hk2 hv0 r0 hD2' hD3 hD6 hD7 hD2 hD1 hO5 q7 hl2 _t
  go_loopw [6, 8] (fun sv kv wr => ∃ (k : Nat) (L : List M9), k + L.length ≤ 9 ∧ kv = .int .i64 (k : Int) ∧ OwnK wr w.heap.size 47 9 sv L.length (mCs L) ∧ RowK wr g7 (mC m) 47 ∧ Off sv g7 ∧ Drew g b n c w wr) (fun sv kv wr => (intOf kv).toNat)
  case atStart =>
    exact ⟨k1 + k2 / 39 * 6, [], by show _ + 0 ≤ 9; omega, by (first | rfl | (congr 1; omega)), hO6, p7, hof, hD8⟩
  case round =>
    clear hO6 p7 hof hD8
    obtain ⟨k, L, hkL, rfl, hO, q7, hof, hD⟩ := hrel
    by_cases hk : 0 < k
    · have hk' : (0 : Int) < (k : Int) := by omega
      have hpb := prB_bd hq
      go_wp2_with (first | (go_at_call 45; (with_reducible refine (DrawMap_E g b n c q _ hD.src (fun a ha => by have := hb a ha; have := hD.but.size; omega) hq).mono ?_); rintro e w6 ⟨t, rfl, ht, hD2⟩; have p7 := RowK.but hD2.but (by omega) q7; have hO2 := OwnK.but hO hD2.but hgl; have hD3 := hD.tr hD2) | (refine wl_store (h1 := mC_one _) ?_) | (go_at_call 46; have r9 : RowK ((w6.alloc (.cells #[.int .i64 0, .int .i64 0, .int .i64 0, .int .i64 0, .int .i64 0, .int .i64 0, .int .i64 0, .int .i64 0, .int .i64 0] 47)).setRow w6.heap.size (mC t)) w6.heap.size (mC t) 47 := findRow; have hV : LowK w6 ((w6.alloc (.cells #[.int .i64 0, .int .i64 0, .int .i64 0, .int .i64 0, .int .i64 0, .int .i64 0, .int .i64 0, .int .i64 0, .int .i64 0] 47)).setRow w6.heap.size (mC t)) := (show LowK w6 ((w6.alloc (.cells #[.int .i64 0, .int .i64 0, .int .i64 0, .int .i64 0, .int .i64 0, .int .i64 0, .int .i64 0, .int .i64 0, .int .i64 0] 47)).setRow w6.heap.size (mC t)) from LowK.set (Nat.le_refl _) (LowK.alloc (LowK.refl _) _)); have hof9 : Off u6 w6.heap.size := Off.above hO2 (Nat.le_refl _); have hO4 := OwnK.set (OwnK.alloc hO2 (.cells #[.int .i64 0, .int .i64 0, .int .i64 0, .int .i64 0, .int .i64 0, .int .i64 0, .int .i64 0, .int .i64 0, .int .i64 0] 47)) (U := mC t) hof9; have hD4 := hD3.low hV; have hg9 := hD3.but.size; have s7 := p7.link (LowK.lnk hV); have hne : g7 ≠ w6.heap.size := (by have := p7.lt; omega); (with_reducible refine (Next_S g b n c 4 _ hD4.src (by decide)).mono ?_); rintro e w7 ⟨k1, rfl, hk1, hD5⟩; have q9 := RowK.but hD5.but (by omega) r9; have t7 := RowK.but hD5.but (by omega) s7; have hO5 := OwnK.but hO4 hD5.but hgl; have hD6 := hD4.tr hD5; generalize w6.heap.size = g9 at *; clear r9 hV hO2 hO4 hD4 hD5 s7 p7 q7 hO hD) | (refine wl_store (h1 := by simp [Value.oneCell']) ?_))
      all_goals first | (obtain ⟨W8, hW8⟩ : ∃ W8, W8 = w7.setRow g9 #[.int .i64 0, .int .i64 1, .int .i64 0, .int .i64 1, .int .i64 0, .int .i64 0, .int .i64 0, .int .i64 0, .int .i64 1] := ⟨_, rfl⟩; rw [← hW8]; rename_i x1; clear x1; obtain ⟨t8, ht8, r9⟩ : ∃ t8, InM t8 ∧ RowK W8 g9 (mC t8) 47 := ⟨((0, 1, 0), (1, 0, 0), (0, 0, 1)), (by intro x hx; simp [listM] at hx; (repeat (first | (rcases hx with hx | hx; (· subst hx; exact ⟨by omega, by omega⟩)) | (subst hx; exact ⟨by omega, by omega⟩)))), (by rw [hW8]; exact (show RowK _ _ #[.int .i64 0, .int .i64 1, .int .i64 0, .int .i64 1, .int .i64 0, .int .i64 0, .int .i64 0, .int .i64 0, .int .i64 1] _ from findRow))⟩; have r7 : RowK W8 g7 (mC m) 47 := (by rw [hW8]; exact RowK.set hne t7); have hO8 : OwnK W8 w.heap.size 47 9 u6 L.length (mCs L) := (by rw [hW8]; exact OwnK.set hO5 hof9); have hD8 : Drew g b n c w W8 := (by rw [hW8]; exact ⟨SrcK.setRow (by omega) (fun a ha => by have := hb a ha; omega) hD6.src, ButK.setNew hg9 hD6.but⟩); clear hW8) | (obtain ⟨W8, hW8⟩ : ∃ W8, W8 = w7.setRow g9 #[.int .i64 1, .int .i64 0, .int .i64 0, .int .i64 0, .int .i64 (q - 1), .int .i64 0, .int .i64 0, .int .i64 0, .int .i64 1] := ⟨_, rfl⟩; rw [← hW8]; rename_i x1 x2; clear x1 x2; obtain ⟨t8, ht8, r9⟩ : ∃ t8, InM t8 ∧ RowK W8 g9 (mC t8) 47 := ⟨((1, 0, 0), (0, q - 1, 0), (0, 0, 1)), (by intro x hx; simp [listM] at hx; (repeat (first | (rcases hx with hx | hx; (· subst hx; exact ⟨by omega, by omega⟩)) | (subst hx; exact ⟨by omega, by omega⟩)))), (by rw [hW8]; exact (show RowK _ _ #[.int .i64 1, .int .i64 0, .int .i64 0, .int .i64 0, .int .i64 (q - 1), .int .i64 0, .int .i64 0, .int .i64 0, .int .i64 1] _ from findRow))⟩; have r7 : RowK W8 g7 (mC m) 47 := (by rw [hW8]; exact RowK.set hne t7); have hO8 : OwnK W8 w.heap.size 47 9 u6 L.length (mCs L) := (by rw [hW8]; exact OwnK.set hO5 hof9); have hD8 : Drew g b n c w W8 := (by rw [hW8]; exact ⟨SrcK.setRow (by omega) (fun a ha => by have := hb a ha; omega) hD6.src, ButK.setNew hg9 hD6.but⟩); clear hW8) | (obtain ⟨W8, hW8⟩ : ∃ W8, W8 = w7.setRow g9 #[.int .i64 0, .int .i64 1, .int .i64 0, .int .i64 0, .int .i64 0, .int .i64 1, .int .i64 1, .int .i64 0, .int .i64 0] := ⟨_, rfl⟩; rw [← hW8]; rename_i x1 x2 x3; clear x1 x2 x3; obtain ⟨t8, ht8, r9⟩ : ∃ t8, InM t8 ∧ RowK W8 g9 (mC t8) 47 := ⟨((0, 1, 0), (0, 0, 1), (1, 0, 0)), (by intro x hx; simp [listM] at hx; (repeat (first | (rcases hx with hx | hx; (· subst hx; exact ⟨by omega, by omega⟩)) | (subst hx; exact ⟨by omega, by omega⟩)))), (by rw [hW8]; exact (show RowK _ _ #[.int .i64 0, .int .i64 1, .int .i64 0, .int .i64 0, .int .i64 0, .int .i64 1, .int .i64 1, .int .i64 0, .int .i64 0] _ from findRow))⟩; have r7 : RowK W8 g7 (mC m) 47 := (by rw [hW8]; exact RowK.set hne t7); have hO8 : OwnK W8 w.heap.size 47 9 u6 L.length (mCs L) := (by rw [hW8]; exact OwnK.set hO5 hof9); have hD8 : Drew g b n c w W8 := (by rw [hW8]; exact ⟨SrcK.setRow (by omega) (fun a ha => by have := hb a ha; omega) hD6.src, ButK.setNew hg9 hD6.but⟩); clear hW8) | (rename_i x1 x2 x3; clear x1 x2 x3; have hqq : w7 = w7 := rfl; generalize w7 = W8 at *; generalize t = t8 at *; have ht8 := ht; have r9 := q9; have r7 := t7; have hO8 := hO5; have hD8 := hD6)
      all_goals
        have hS8 := hD8.src
        clear hO5 t7 q9 hD6 hD3 hD2
        refine region_DR (id := 15) 14 [7, 10, 11, 12, 13] (StD g b n c) [(61, isMap InM), (64, isMap InM), (65, isMap InM), (66, isMap fun _ => True), (67, isOne g)] (.k (.k (.k (.k (.k (.k (.k (.d (.k (.k (.d (.d (.d (.d (.d (.d .n)))))))))))))))) (.d (.d (.d (.d (.d (.d (.d (.k (.d (.d (.k (.k (.k (.k (.d (.d .n)))))))))))))))) (stD g b n c) ⟨mono_map _ _, mono_map _ _, mono_map _ _, mono_map _ _, mono_one _ _ _ _, trivial⟩ ?_
        apply Exists.intro
        refine ⟨fun W0 hk G => ?_, ?_⟩
        · have k7 := RowK.std hk (by omega) r7
          have k9 := RowK.std hk (by omega) r9
          repeat (first | go_big_quiet_skip | (go_big_quiet_want; first | (refine q_loadS ?_; simp only [Act.put, List.setIfInBounds_toArray, List.set_cons_zero, List.set_cons_succ]; go_big_quiet_on) | (refine q_load ?_; simp only [Act.put, List.setIfInBounds_toArray, List.set_cons_zero, List.set_cons_succ]; go_big_quiet_on) | (go_big_quiet_op; first | go_big_quiet_on)))
          exact rfl
        refine dr_step (fun W hW hr => ?_) (fun v1 => ?_)
        · go_wp2_with (first | (go_at_call 25; (with_reducible refine (times_S _ rfl hq hm ht8).mono ?_); rintro e w8 ⟨rfl, hl3⟩))
          exact ⟨rfl, _, rfl, LowK.st ⟨hl3⟩, _, rfl, inM_times hq⟩
        refine dr_step (fun W hW hr => ?_) (fun v2 => ?_)
        · go_wp2_with (first | (go_at_call 48; (with_reducible refine (Inverse_E q m _ hq hm).mono ?_); rintro e w8 ⟨y, rfl, hy, hl3⟩))
          exact ⟨rfl, _, rfl, LowK.st hl3, y, rfl, hy⟩
        refine dr_step (fun W hW hr => ?_) (fun v3 => ?_)
        · obtain ⟨y, rfl, hy⟩ := hr 61 rfl rfl
          obtain ⟨z, rfl, hz⟩ := hr 64 rfl rfl
          go_wp2_with (first | (go_at_call 25; (with_reducible refine (times_S _ rfl hq hy hz).mono ?_); rintro e w8 ⟨rfl, hl3⟩))
          exact ⟨rfl, _, rfl, LowK.st ⟨hl3⟩, _, rfl, inM_times hq⟩
        refine dr_step (fun W hW hr => ?_) (fun v4 => ?_)
        · obtain ⟨y, rfl, hy⟩ := hr 65 rfl rfl
          have hs := hW.src hS8
          go_wp2_with (first | (go_at_call 47; (with_reducible refine (Bad_E g b n c q y _ hs (fun a ha => by have := hb a ha; have := hD8.but.size; have := hW.but.size; omega)).mono ?_); rintro e w8 ⟨z, rfl, hD9⟩))
          exact ⟨rfl, _, rfl, hD9.st, z, rfl, trivial⟩
        refine dr_step (fun W hW hr => ?_) (fun v5 => ?_)
        · obtain ⟨y, rfl, -⟩ := hr 66 rfl rfl
          have hgW := (hW.src hS8).lt
          go_wp2_with (first | (refine wl_sliceM (t := y) ?_))
          exact ⟨rfl, _, rfl, LowK.st findLow, _, y, rfl, by omega, findRow⟩
        refine dr_nil fun W hW hp => ?_
        simp [Act.put, PastR, relOf] at hp
        obtain ⟨-, -, -, -, h1, y, rfl, hne1, hy⟩ := hp
        (try simp only [List.drop_succ_cons, List.drop_zero])
        conv => arg 5; simp [Act.put]
        have s7 := RowK.std hW (by omega) r7
        have hO9 := OwnK.but hO8 hW.but hgl
        have hD9 : Drew g b n c w W := hD8.tr (hW.drew hS8)
        clear hO8 r9 r7 hD8 hS8 hW
        refine wl_append (he := eltMp) (hown := hO9) (hnew := hy) (h1 := mC_one y) (hbase := hD9.but.size) (fun v' w' hO' hg' hb' => ?_)
        have r7' := RowK.grew hg' hof s7
        have hof' : Off v' g7 := ⟨by rcases hb' with e | e <;> rw [e]; exact hof.out; exact fun e => by have := s7.lt; simp at e; omega⟩
        have hD' : Drew g b n c w w' := ⟨SrcK.grew hD9.src hg' (Off.under hO9 hgl) (fun a ha => Off.under hO9 (hb a ha)), ButK.grew hD9.but hg' (fun b hb => hO9.base b hb)⟩
        rw [mCs_snoc] at hO'
        clear hO9 hy s7 hD9 hg' hb' hof
        go_wp2
        go_roundw
        case rel => exact ⟨k - 1, L ++ [y], by simp; omega, by go_num, (by rw [List.length_append]; exact hO'), r7', hof', hD'⟩
        case measure => (simp [intOf]; try omega)
    · obtain rfl : k = 0 := by omega
      go_wp2
      (apply ret_two Try.results27; (conv => lhs; whnf); (conv => lhs; whnf); exact rfl)
      exact ⟨p, u6, L, rfl, hO, by omega, hD⟩
end Go.Proofs.Ytnpmdchphaenaaa
/- Contracts: the draws of three laws. -- draws -- own lists -/
namespace Go.Proofs.Ytnpmdchphaenaaa
open Go.RowKit
set_option linter.unusedVariables false
set_option linter.unusedSimpArgs false
theorem OwnK.weak {W : World} {B B' : Nat} {T : TypeId} {sz : Nat} {v : Value} {n : Nat} {xs : List Value} (h : OwnK W B T sz v n xs) (hB : B' ≤ B) : OwnK W B' T sz v n xs := by
  refine ⟨h.out.1, ?_⟩
  rcases h.out.2 with h1 | ⟨g, cap, cur, h1, h2, h3⟩
  · exact .inl h1
  · exact .inr ⟨g, cap, cur, h1, Nat.le_trans hB h2, h3⟩
section
variable {P : Program} {fn : Func} {R : Ending → World → Prop} {a : Act} {w : World}
theorem results_22 {tmps : Array Value} {s t u v : Tmp} {g h : Nat} {T T' ty ty' : TypeId} {cs ds : Array Value} {fr fr' : Nat × Nat} {x y : Value} (hf : fn.results = #[.tmp s, .tmp t, .cell u ty, .cell v ty']) (hx : tmps.getD s undef = x) (hy : tmps.getD t undef = y)
    (hu : tmps.getD u undef = .pointer (some ⟨g, 0, none⟩)) (hv : tmps.getD v undef = .pointer (some ⟨h, 0, none⟩)) (hg : w.heap[g]? = some (.cells cs T fr)) (hh : w.heap[h]? = some (.cells ds T' fr')) (n : Nat) (hn : cs.size = n) (hs : ∀ W, (sizeOf ty).run P W = .ok n W) (ha : ∀ W, (isAgg ty).run P W = .ok true W)
    (n' : Nat) (hn' : ds.size = n') (hs' : ∀ W, (sizeOf ty').run P W = .ok n' W) (ha' : ∀ W, (isAgg ty').run P W = .ok true W) : (results fn tmps).run P w = .ok (.tuple #[x, y, .agg cs, .agg ds]) w := by
  have e1 := run_loadRow (P := P) ty hg n hn hs ha
  have e2 := run_loadRow (P := P) ty' hh n' hn' hs' ha'
  have hu' : tmps[u]?.getD undef = .pointer (some ⟨g, 0, none⟩) := by rw [← Array.getD_eq_getD_getElem?]; exact hu
  have hv' : tmps[v]?.getD undef = .pointer (some ⟨h, 0, none⟩) := by rw [← Array.getD_eq_getD_getElem?]; exact hv
  have hx' : tmps[s]?.getD undef = x := by rw [← Array.getD_eq_getD_getElem?]; exact hx
  have hy' : tmps[t]?.getD undef = y := by rw [← Array.getD_eq_getD_getElem?]; exact hy
  have hp : ∀ a : Addr, asAddr (.pointer (some a)) = pure a := fun _ => rfl
  simp [results, hf, hu', hv', hx', hy', hp, Sem.run_bind, Sem.run_pure, e1, e2]
theorem ret_22 {s t u v : Tmp} {g h : Nat} {T T' ty ty' : TypeId} {cs ds : Array Value} {x y : Value} (hf : fn.results = #[.tmp s, .tmp t, .cell u ty, .cell v ty']) (hx : a.tmps.getD s undef = x) (hy : a.tmps.getD t undef = y)
    (hu : a.tmps.getD u undef = .pointer (some ⟨g, 0, none⟩)) (hv : a.tmps.getD v undef = .pointer (some ⟨h, 0, none⟩)) (hg : RowK w g cs T) (hh : RowK w h ds T') (n : Nat) (hn : cs.size = n) (hs : ∀ W, (sizeOf ty).run P W = .ok n W) (ha : ∀ W, (isAgg ty).run P W = .ok true W)
    (n' : Nat) (hn' : ds.size = n') (hs' : ∀ W, (sizeOf ty').run P W = .ok n' W) (ha' : ∀ W, (isAgg ty').run P W = .ok true W) (hd : a.defers = []) (hR : R (.returned (.tuple #[x, y, .agg cs, .agg ds])) w) : bodyPost P fn R .ret a w :=
  bodyPost_ret (results_22 hf hx hy hu hv hg.out hh.out n hn hs ha n' hn' hs' ha') hd hR
end
set_option pp.deepTerms false
set_option pp.deepTerms.threshold 10
/-- What a draw of maps leaves. -/
def DrewMaps (w : World) (e : Ending) (W : World) : Prop := ∃ (p : Int) (v : Value) (L : List M9), e = .returned (.tuple #[.int .i64 p, v]) ∧ OwnK W w.heap.size 47 9 v L.length (mCs L) ∧ L.length ≤ 9 ∧ LowK w W
set_option maxRecDepth 20000 in
set_option maxHeartbeats 16000000 in
theorem DrawGroupOrder_E (b : Option Addr) (n c : Nat) (w : World) (hC : CodeK w b n) (hn : n ≤ 4096) (hb : ∀ a, b = some a → a.block < w.heap.size) :
    Calls Try.prog 14 #[.slice b n c] w (DrewMaps w) := by
  go_enter Try.func14, Try.ntmps14
  go_wp2_with (first | (go_at_call 26; (with_reducible refine (From_S b n c _ hC hn hb).mono ?_); rintro e w1 ⟨g, rfl, hg, hS, hl1⟩; have hz := LowK.size hl1) | (go_at_call 27; (with_reducible refine (DrawMaps_E g b n c _ hS (fun a ha => by have := hb a ha; omega)).mono ?_); rintro e w2 ⟨p, v, L, rfl, hO, hL, hD⟩; have hl2 := LowK.but hD.but hg hl1; have hO2 := OwnK.weak hO hz))
  (apply ret_two Try.results14; (conv => lhs; whnf); (conv => lhs; whnf); exact rfl)
  exact ⟨p, v, L, rfl, hO2, hL, hl2⟩
set_option maxRecDepth 20000 in
set_option maxHeartbeats 16000000 in
theorem DrawOrbitsOf_E (b : Option Addr) (n c : Nat) (w : World) (hC : CodeK w b n) (hn : n ≤ 4096) (hb : ∀ a, b = some a → a.block < w.heap.size) :
    Calls Try.prog 5 #[.slice b n c] w (DrewMaps w) := by
  go_enter Try.func5, Try.ntmps5
  go_wp2_with (first | (go_at_call 14; (with_reducible refine (DrawGroupOrder_E b n c _ hC hn hb).mono ?_); rintro e w1 ⟨p, v, L, rfl, hO, hL, hl⟩))
  (apply ret_two Try.results5; (conv => lhs; whnf); (conv => lhs; whnf); exact rfl)
  exact ⟨p, v, L, rfl, hO, hL, hl⟩
set_option maxRecDepth 20000 in
set_option maxHeartbeats 16000000 in
theorem DrawAreInOneOrbit_E (b : Option Addr) (n c : Nat) (w : World) (hC : CodeK w b n) (hn : n ≤ 4096) (hb : ∀ a, b = some a → a.block < w.heap.size) :
    Calls Try.prog 11 #[.slice b n c] w (fun e W => ∃ (p : Int) (v : Value) (L : List M9) (x y : Pt), e = .returned (.tuple #[.int .i64 p, v, pV x, pV y]) ∧ OwnK W w.heap.size 47 9 v L.length (mCs L) ∧ L.length ≤ 9 ∧ LowK w W) := by
  go_enter Try.func11, Try.ntmps11
  go_wp2_with (first | (go_at_call 26; have r4 : RowK ((w.alloc (.cells #[.int .i64 0, .int .i64 0, .int .i64 0] 34)).alloc (.cells #[.int .i64 0, .int .i64 0, .int .i64 0] 34)) w.heap.size (pC (0, 0, 0)) 34 := (show RowK _ _ #[.int .i64 0, .int .i64 0, .int .i64 0] _ from findRow); have r5 : RowK ((w.alloc (.cells #[.int .i64 0, .int .i64 0, .int .i64 0] 34)).alloc (.cells #[.int .i64 0, .int .i64 0, .int .i64 0] 34)) (w.heap.size + 1) (pC (0, 0, 0)) 34 := (show RowK _ _ #[.int .i64 0, .int .i64 0, .int .i64 0] _ from findRow); have hV : LowK w ((w.alloc (.cells #[.int .i64 0, .int .i64 0, .int .i64 0] 34)).alloc (.cells #[.int .i64 0, .int .i64 0, .int .i64 0] 34)) := findLow; have hz := LowK.size hV; have hsz : ((w.alloc (.cells #[.int .i64 0, .int .i64 0, .int .i64 0] 34)).alloc (.cells #[.int .i64 0, .int .i64 0, .int .i64 0] 34)).heap.size = w.heap.size + 1 + 1 := (by simp); (with_reducible refine (From_S b n c _ (hC.link (LowK.lnk hV)) hn (fun a ha => by have := hb a ha; omega)).mono ?_); rintro e w1 ⟨g, rfl, hg, hS, hl1⟩; have hz1 := LowK.size hl1; have q4 := r4.link (LowK.lnk hl1); have q5 := r5.link (LowK.lnk hl1); have hgl := hS.lt; have hbb : ∀ a, b = some a → a.block < w1.heap.size := (fun a ha => by have := hb a ha; omega); have hV1 := LowK.link (LowK.lnk hl1) hV; rw [hsz] at hg; clear r4 r5 hV hl1) | (go_at_call 27; (with_reducible refine (DrawMaps_E g b n c _ hS hbb).mono ?_); rintro e w2 ⟨p, v, L, rfl, hO, hL, hD⟩) | (go_at_call 28; (with_reducible refine (Fine_S p _).mono ?_); rintro e w3 ⟨q, rfl, hq, hl3⟩; have hD3 := hD.low hl3; have hO3 := OwnK.link (LowK.lnk hl3) hO) | (go_at_call 29; (with_reducible refine (DrawPoint_E g b n c q _ hD3.src (fun a ha => by have := hbb a ha; have := hD3.but.size; omega)).mono ?_); rintro e w4 ⟨x, rfl, hD4⟩; have hD5 := hD3.tr hD4; have hO5 := OwnK.but hO3 hD4.but hgl) | (go_at_call 30; (with_reducible refine (SpoilPoint_E g b n c q _ hD5.src (fun a ha => by have := hbb a ha; have := hD5.but.size; omega)).mono ?_); rintro e w6 ⟨y, rfl, hD6⟩; have hD7 := hD5.tr hD6; have hO7 := OwnK.but hO5 hD6.but hgl; have p4 := RowK.but hD7.but (by omega) q4; have p5 := RowK.but hD7.but (by omega) q5; have hl7 := LowK.but hD7.but (by omega) hV1; clear hO5 hO3 hO hD hD3 hD4 hD5 hD6 hD7 q4 q5 hV1) | (refine wl_store ?_))
  have s4 : RowK ((w6.setRow w.heap.size (pC x)).setRow (w.heap.size + 1) (pC y)) w.heap.size (pC x) 34 := findRow
  have s5 : RowK ((w6.setRow w.heap.size (pC x)).setRow (w.heap.size + 1) (pC y)) (w.heap.size + 1) (pC y) 34 := findRow
  have hO8 := OwnK.set (OwnK.set hO7 (U := pC x) (Off.under hO7 (g := w.heap.size) (by omega))) (U := pC y) (Off.under hO7 (g := w.heap.size + 1) (by omega))
  exact ret_22 Try.results11 rfl rfl rfl rfl s4 s5 3 rfl Try.sizeOf34 Try.isAgg34 3 rfl Try.sizeOf34 Try.isAgg34 rfl ⟨p, v, L, x, y, rfl, OwnK.weak hO8 (by omega), hL, findLow⟩
end Go.Proofs.Ytnpmdchphaenaaa
/- The law FnGroups: its helpers. -- draws -/
namespace Go.Proofs.Ytnpmdchphaenaaa
open Go.RowKit
set_option linter.unusedVariables false
set_option linter.unusedSimpArgs false
theorem big_E (b : Option Addr) (n c : Nat) (w : World) {v : Bool} (hv : decide (4096 < n) = v) : Calls Try.prog 4 #[.slice b n c] w (Ret w (.bool v)) := by
  have HV := Lib.hid hv
  clear hv
  rcases v with _ | _
  · have h : ¬ (4096 : Int) < (n : Int) := by have := HV.out; simp at this; omega
    go_enter Try.func4, Try.ntmps4
    go_wp2_with (first | (refine wl_loadS ?_) | (refine wl_load ?_) | (refine wl_storeS ?_) | (refine wl_store ?_) | (refine wl_build ?_) | (refine wl_slice ?_) | (refine wl_append ?_; intro v' w' ho hg hb; have hs := hg.size; (try simp at hs); (try rw [ptCs_end] at ho); (try rw [ints_end] at ho); (try simp only [Nat.zero_add, Nat.reduceAdd, List.nil_append, List.cons_append] at ho)))
    (apply ret_one Try.results4; (conv => lhs; whnf); exact rfl)
    exact ret_ret rfl findLow
  · have h : (4096 : Int) < (n : Int) := by have := HV.out; simp at this; omega
    go_enter Try.func4, Try.ntmps4
    go_wp2_with (first | (refine wl_loadS ?_) | (refine wl_load ?_) | (refine wl_storeS ?_) | (refine wl_store ?_) | (refine wl_build ?_) | (refine wl_slice ?_) | (refine wl_append ?_; intro v' w' ho hg hb; have hs := hg.size; (try simp at hs); (try rw [ptCs_end] at ho); (try rw [ints_end] at ho); (try simp only [Nat.zero_add, Nat.reduceAdd, List.nil_append, List.cons_append] at ho)))
    (apply ret_one Try.results4; (conv => lhs; whnf); exact rfl)
    exact ret_ret rfl findLow
set_option pp.deepTerms false
set_option pp.deepTerms.threshold 10
set_option maxRecDepth 20000 in
set_option maxHeartbeats 8000000 in
theorem points9_K (g g2 n c c2 : Nat) (L : List Pt) (w : World) (hn : n ≤ 1000000) (hL : L.length = n) (h1 : PtsK w g 0 n L) (h2 : PtsK w g2 0 n L) :
    Calls Try.prog 21 #[.slice (some ⟨g, 0, none⟩) n c, .slice (some ⟨g2, 0, none⟩) n c2] w (Ret w (.bool true)) := by
  have HL := Lib.hid hL
  clear hL
  go_enter Try.func21, Try.ntmps21
  go_wp2_with (first | (refine wl_loadS ?_) | (refine wl_load ?_) | (refine wl_storeS ?_) | (refine wl_store ?_) | (refine wl_build ?_) | (refine wl_slice ?_) | (refine wl_append ?_; intro v' w' ho hg hb; have hs := hg.size; (try simp at hs); (try rw [ptCs_end] at ho); (try rw [ints_end] at ho); (try simp only [Nat.zero_add, Nat.reduceAdd, List.nil_append, List.cons_append] at ho)) | ((with_reducible apply region_gd (id := 6)); refine region_QA (id := 6) 9 ?_; apply Exists.intro; refine ⟨fun G => ?_, fun W hl => ?_⟩; (· (simp only [List.take_succ_cons, List.take_zero]; (repeat (first | go_big_quiet_skip | (go_big_quiet_want; first | (refine q_loadS ?_; simp only [Act.put, List.setIfInBounds_toArray, List.set_cons_zero, List.set_cons_succ]; go_big_quiet_on) | (refine q_load ?_; simp only [Act.put, List.setIfInBounds_toArray, List.set_cons_zero, List.set_cons_succ]; go_big_quiet_on) | (go_big_quiet_op; first | go_big_quiet_on)))); exact rfl)); have hs := hl.out.size; (try simp at hs); simp only [List.drop_succ_cons, List.drop_zero]))
  go_loopw [5] (fun iv wr => ∃ i : Nat, i ≤ n ∧ iv = .int .i64 (i : Int) ∧ LowK w wr) (fun iv wr => n - (intOf iv).toNat)
  case atStart => exact ⟨0, Nat.zero_le _, rfl, LowK.refl _⟩
  case round =>
    obtain ⟨i, hi, rfl, hV⟩ := hrel
    by_cases hlt : i < n
    · have p1 := h1.link (LowK.lnk hV)
      have p2 := h2.link (LowK.lnk hV)
      have he : eqP (L[i]?.getD (0, 0, 0)) (L[i]?.getD (0, 0, 0)) = true := by simp [eqP]
      go_wp2_with (first | (refine wl_loadS ?_) | (refine wl_load ?_) | (refine wl_storeS ?_) | (refine wl_store ?_) | (refine wl_build ?_) | (refine wl_slice ?_) | (refine wl_append ?_; intro v' w' ho hg hb; have hs := hg.size; (try simp at hs); (try rw [ptCs_end] at ho); (try rw [ints_end] at ho); (try simp only [Nat.zero_add, Nat.reduceAdd, List.nil_append, List.cons_append] at ho)) | ((with_reducible apply region_gd (id := 6)); refine region_QA (id := 6) 9 ?_; apply Exists.intro; refine ⟨fun G => ?_, fun W hl => ?_⟩; (· (simp only [List.take_succ_cons, List.take_zero]; (repeat (first | go_big_quiet_skip | (go_big_quiet_want; first | (refine q_loadS ?_; simp only [Act.put, List.setIfInBounds_toArray, List.set_cons_zero, List.set_cons_succ]; go_big_quiet_on) | (refine q_load ?_; simp only [Act.put, List.setIfInBounds_toArray, List.set_cons_zero, List.set_cons_succ]; go_big_quiet_on) | (go_big_quiet_op; first | go_big_quiet_on)))); exact rfl)); have hs := hl.out.size; (try simp at hs); simp only [List.drop_succ_cons, List.drop_zero]))
      go_roundw
      case rel => exact ⟨i + 1, by omega, by go_num, findLow⟩
      case measure => (simp [intOf]; try omega)
    · obtain rfl : n = i := by omega
      go_wp2_with (first | (refine wl_loadS ?_) | (refine wl_load ?_) | (refine wl_storeS ?_) | (refine wl_store ?_) | (refine wl_build ?_) | (refine wl_slice ?_) | (refine wl_append ?_; intro v' w' ho hg hb; have hs := hg.size; (try simp at hs); (try rw [ptCs_end] at ho); (try rw [ints_end] at ho); (try simp only [Nat.zero_add, Nat.reduceAdd, List.nil_append, List.cons_append] at ho)) | ((with_reducible apply region_gd (id := 6)); refine region_QA (id := 6) 9 ?_; apply Exists.intro; refine ⟨fun G => ?_, fun W hl => ?_⟩; (· (simp only [List.take_succ_cons, List.take_zero]; (repeat (first | go_big_quiet_skip | (go_big_quiet_want; first | (refine q_loadS ?_; simp only [Act.put, List.setIfInBounds_toArray, List.set_cons_zero, List.set_cons_succ]; go_big_quiet_on) | (refine q_load ?_; simp only [Act.put, List.setIfInBounds_toArray, List.set_cons_zero, List.set_cons_succ]; go_big_quiet_on) | (go_big_quiet_op; first | go_big_quiet_on)))); exact rfl)); have hs := hl.out.size; (try simp at hs); simp only [List.drop_succ_cons, List.drop_zero]))
      (apply ret_one Try.results21; (conv => lhs; whnf); exact rfl)
      exact ret_ret rfl findLow
set_option maxRecDepth 20000 in
set_option maxHeartbeats 8000000 in
theorem sets9_K (b b' : Option Addr) (m c c' : Nat) (T T' : List Row3) (Ls : List (List Pt)) (w : World) (hm : T.length = m) (hm' : T'.length = m) (hT : T.map (·.2.2) = Ls) (hT' : T'.map (·.2.2) = Ls) (m1 : m ≤ 183) (hlen : ∀ l ∈ Ls, l.length ≤ 1000) (hH : HdrK w b T) (hH' : HdrK w b' T') (hR : RowsP w T) (hR' : RowsP w T') :
    Calls Try.prog 8 #[.slice b m c, .slice b' m c'] w (Ret w (.bool true)) := by
  have HT := Lib.hid hT
  have HT' := Lib.hid hT'
  have HM := Lib.hid hm
  have HM' := Lib.hid hm'
  have HL := Lib.hid hlen
  have HH := Lib.hid hH
  have HH' := Lib.hid hH'
  have HR := Lib.hid hR
  have HR' := Lib.hid hR'
  clear hT hT' hm hm' hlen hH hH' hR hR'
  go_enter Try.func8, Try.ntmps8
  go_wp2_with (first | (refine wl_loadS ?_) | (refine wl_load ?_) | (refine wl_storeS ?_) | (refine wl_store ?_) | (refine wl_build ?_) | (refine wl_slice ?_) | (refine wl_append ?_; intro v' w' ho hg hb; have hs := hg.size; (try simp at hs); (try rw [ptCs_end] at ho); (try rw [ints_end] at ho); (try simp only [Nat.zero_add, Nat.reduceAdd, List.nil_append, List.cons_append] at ho)) | ((with_reducible apply region_gd (id := 6)); refine region_QA (id := 6) 10 ?_; apply Exists.intro; refine ⟨fun G => ?_, fun W hl => ?_⟩; (· (simp only [List.take_succ_cons, List.take_zero]; (repeat (first | go_big_quiet_skip | (go_big_quiet_want; first | (refine q_loadS ?_; simp only [Act.put, List.setIfInBounds_toArray, List.set_cons_zero, List.set_cons_succ]; go_big_quiet_on) | (refine q_load ?_; simp only [Act.put, List.setIfInBounds_toArray, List.set_cons_zero, List.set_cons_succ]; go_big_quiet_on) | (go_big_quiet_op; first | go_big_quiet_on)))); exact rfl)); have hs := hl.out.size; (try simp at hs); simp only [List.drop_succ_cons, List.drop_zero]))
  go_loopw [5] (fun iv wr => ∃ i : Nat, i ≤ m ∧ iv = .int .i64 (i : Int) ∧ LowK w wr) (fun iv wr => m - (intOf iv).toNat)
  case atStart => exact ⟨0, Nat.zero_le _, rfl, LowK.refl _⟩
  case round =>
    obtain ⟨i, hi, rfl, hV⟩ := hrel
    by_cases hlt : i < m
    · obtain ⟨g, rfl, hc⟩ := HH.out.link (LowK.lnk hV) (by rw [HM.out]; omega)
      obtain ⟨g', rfl, hc'⟩ := HH'.out.link (LowK.lnk hV) (by rw [HM'.out]; omega)
      have k1 := hc i (by rw [HM.out]; exact hlt)
      have k2 := hc' i (by rw [HM'.out]; exact hlt)
      have m1 := getT_mem (T := T) (j := i) (by rw [HM.out]; exact hlt)
      have m2 := getT_mem (T := T') (j := i) (by rw [HM'.out]; exact hlt)
      have p1 := (HR.out.link (LowK.lnk hV)) _ m1
      have p2 := (HR'.out.link (LowK.lnk hV)) _ m2
      have e1 : (T.getD i (0, 0, [])).2.2 = (T'.getD i (0, 0, [])).2.2 := by
        have h1 := congrArg (fun l : List (List Pt) => l.getD i []) (HT.out.trans HT'.out.symm)
        simpa [List.getD, HM.out, HM'.out, hlt] using h1
      have hl := HL.out _ (by rw [← HT.out]; exact List.mem_map_of_mem m1)
      clear hc hc' m1 m2
      generalize T.getD i (0, 0, []) = t at *
      generalize T'.getD i (0, 0, []) = t' at *
      obtain ⟨a, ca, l⟩ := t
      obtain ⟨a', ca', l'⟩ := t'
      replace e1 : l = l' := e1
      subst e1
      replace k1 : CellK wr g i (.slice (some ⟨a, 0, none⟩) l.length ca) := k1
      replace k2 : CellK wr g' i (.slice (some ⟨a', 0, none⟩) l.length ca') := k2
      replace p1 : PtsK wr a 0 l.length l := p1
      replace p2 : PtsK wr a' 0 l.length l := p2
      replace hl : l.length ≤ 1000 := hl
      go_wp2_with (first | (refine wl_loadS ?_) | (refine wl_load ?_) | (refine wl_storeS ?_) | (refine wl_store ?_) | (refine wl_build ?_) | (refine wl_slice ?_) | (refine wl_append ?_; intro v' w' ho hg hb; have hs := hg.size; (try simp at hs); (try rw [ptCs_end] at ho); (try rw [ints_end] at ho); (try simp only [Nat.zero_add, Nat.reduceAdd, List.nil_append, List.cons_append] at ho)) | (go_at_call 21; (with_reducible refine (points9_K a a' l.length ca ca' l _ (by omega) rfl fP fP).mono ?_); rintro e w' ⟨rfl, hb⟩; have hl := Link.mk hb; have hs := hb.size; (try simp at hs); clear hb) | ((with_reducible apply region_gd (id := 6)); refine region_QA (id := 6) 10 ?_; apply Exists.intro; refine ⟨fun G => ?_, fun W hl => ?_⟩; (· (simp only [List.take_succ_cons, List.take_zero]; (repeat (first | go_big_quiet_skip | (go_big_quiet_want; first | (refine q_loadS ?_; simp only [Act.put, List.setIfInBounds_toArray, List.set_cons_zero, List.set_cons_succ]; go_big_quiet_on) | (refine q_load ?_; simp only [Act.put, List.setIfInBounds_toArray, List.set_cons_zero, List.set_cons_succ]; go_big_quiet_on) | (go_big_quiet_op; first | go_big_quiet_on | (apply Exists.intro; refine ⟨fun g => ?_, ?_⟩; (· (have hl := growL g; first | (go_at_call 21; with_reducible exact grow_ret (points9_K a a' l.length ca ca' l _ (by omega) rfl fP fP)))); go_big_quiet_on))))); exact rfl)); have hs := hl.out.size; (try simp at hs); simp only [List.drop_succ_cons, List.drop_zero]))
      go_roundw
      case rel => exact ⟨i + 1, by omega, by go_num, findLow⟩
      case measure => (simp [intOf]; try omega)
    · obtain rfl : m = i := by omega
      go_wp2_with (first | (refine wl_loadS ?_) | (refine wl_load ?_) | (refine wl_storeS ?_) | (refine wl_store ?_) | (refine wl_build ?_) | (refine wl_slice ?_) | (refine wl_append ?_; intro v' w' ho hg hb; have hs := hg.size; (try simp at hs); (try rw [ptCs_end] at ho); (try rw [ints_end] at ho); (try simp only [Nat.zero_add, Nat.reduceAdd, List.nil_append, List.cons_append] at ho)) | ((with_reducible apply region_gd (id := 6)); refine region_QA (id := 6) 10 ?_; apply Exists.intro; refine ⟨fun G => ?_, fun W hl => ?_⟩; (· (simp only [List.take_succ_cons, List.take_zero]; (repeat (first | go_big_quiet_skip | (go_big_quiet_want; first | (refine q_loadS ?_; simp only [Act.put, List.setIfInBounds_toArray, List.set_cons_zero, List.set_cons_succ]; go_big_quiet_on) | (refine q_load ?_; simp only [Act.put, List.setIfInBounds_toArray, List.set_cons_zero, List.set_cons_succ]; go_big_quiet_on) | (go_big_quiet_op; first | go_big_quiet_on)))); exact rfl)); have hs := hl.out.size; (try simp at hs); simp only [List.drop_succ_cons, List.drop_zero]))
      (apply ret_one Try.results8; (conv => lhs; whnf); exact rfl)
      exact ret_ret rfl findLow
end Go.Proofs.Ytnpmdchphaenaaa
/- The law FnGroups: walked. -- draws -/
namespace Go.Proofs.Ytnpmdchphaenaaa
open Go.RowKit
set_option linter.unusedVariables false
set_option linter.unusedSimpArgs false
/-- What each side hands back. -/
structure TabE (w : World) (Ls : List (List Pt)) (m : Nat) (cd : Int) (e : Ending) (w' : World) : Prop where
  out : ∃ b c T, e = .returned (.tuple #[.slice b m c, .int .i64 cd]) ∧ T.length = m ∧ T.map (·.2.2) = Ls ∧ HdrK w' b T ∧ RowsP w' T ∧ LowK w w'
def sumT (T : List Row3) (i : Nat) : Nat := ((T.take i).map fun t => t.2.2.length).sum
theorem sumT_next {T : List Row3} {i : Nat} (h : i < T.length) : sumT T (i + 1) = sumT T i + (T.getD i (0, 0, [])).2.2.length := by
  unfold sumT
  rw [List.take_succ_eq_append_getElem h, List.map_append, List.sum_append]
  simp [List.getD, h]
theorem sumT_all (T : List Row3) {Ls : List (List Pt)} (h : T.map (·.2.2) = Ls) : sumT T T.length = (Ls.map List.length).sum := by
  unfold sumT
  rw [List.take_length, ← h, List.map_map]
  rfl
theorem TabC.e {w w' : World} {Ls : List (List Pt)} {cd : Int} {e : Ending} {m : Nat} (hm : Ls.length = m) (h : TabC w Ls cd e w') : TabE w Ls m cd e w' := by
  obtain ⟨b, c, T, rfl, hTL, hT, hO, hL⟩ := h.out
  have hTm : T.length = m := by rw [← hm, ← hTL, List.length_map]
  exact ⟨b, c, T, by rw [← hTm], hTm, hTL, HdrK.of hO, RowsP.of hT, hL⟩
set_option maxRecDepth 20000 in
set_option maxHeartbeats 4000000 in
theorem FnGroups_big (b : Option Addr) (n c : Nat) (w : World) (hn : 4096 < n) : Calls Try.prog 3 #[.slice b n c] w (Ret w (.bool true)) := by
  go_enter Try.func3, Try.ntmps3
  go_wp2_with (first | (refine wl_loadS ?_) | (refine wl_load ?_) | (refine wl_storeS ?_) | (refine wl_store ?_) | (refine wl_build ?_) | (refine wl_slice ?_) | (refine wl_append ?_; intro v' w' ho hg hb; have hs := hg.size; (try simp at hs); (try rw [ptCs_end] at ho); (try rw [ints_end] at ho); (try simp only [Nat.zero_add, Nat.reduceAdd, List.nil_append, List.cons_append] at ho)) | (go_at_call 4; (with_reducible refine (big_E b n c _ (decide_eq_true hn)).mono ?_); rintro e w' ⟨rfl, hb⟩; have hl := Link.mk hb; have hs := hb.size; (try simp at hs); clear hb) | ((with_reducible apply region_gd (id := 28)); refine region_QA (id := 28) 23 ?_; apply Exists.intro; refine ⟨fun G => ?_, fun W hl => ?_⟩; (· (simp only [List.take_succ_cons, List.take_zero]; (repeat (first | go_big_quiet_skip | (go_big_quiet_want; first | (refine q_loadS ?_; simp only [Act.put, List.setIfInBounds_toArray, List.set_cons_zero, List.set_cons_succ]; go_big_quiet_on) | (refine q_load ?_; simp only [Act.put, List.setIfInBounds_toArray, List.set_cons_zero, List.set_cons_succ]; go_big_quiet_on) | (go_big_quiet_op; first | go_big_quiet_on | (apply Exists.intro; refine ⟨fun g => ?_, ?_⟩; (· (have hl := growL g; first | (go_at_call 4; with_reducible exact grow_ret (big_E b n c _ (decide_eq_true hn))))); go_big_quiet_on))))); exact rfl)); have hs := hl.out.size; (try simp at hs); simp only [List.drop_succ_cons, List.drop_zero]))
  (apply ret_one Try.results3; (conv => lhs; whnf); exact rfl)
  exact ret_ret rfl findLow
set_option pp.deepTerms false
set_option pp.deepTerms.threshold 10
set_option maxRecDepth 20000 in
set_option maxHeartbeats 16000000 in
theorem FnGroups_small (b : Option Addr) (n c : Nat) (w : World) (hC : CodeK w b n) (hn : n ≤ 4096) (hb : ∀ a, b = some a → a.block < w.heap.size) : Calls Try.prog 3 #[.slice b n c] w (Ret w (.bool true)) := by
  have HB := Lib.hid hb
  have HC := Lib.hid hC
  clear hb hC
  have tok : True := trivial
  go_enter Try.func3, Try.ntmps3
  go_wp2_with (first | (refine wl_loadS ?_) | (refine wl_load ?_) | (refine wl_storeS ?_) | (refine wl_store ?_) | (refine wl_build ?_) | (refine wl_slice ?_) | (refine wl_append ?_; intro v' w' ho hg hb; have hs := hg.size; (try simp at hs); (try rw [ptCs_end] at ho); (try rw [ints_end] at ho); (try simp only [Nat.zero_add, Nat.reduceAdd, List.nil_append, List.cons_append] at ho)) | (go_at_call 4; (with_reducible refine (big_E b n c _ (decide_eq_false (by omega))).mono ?_); rintro e w' ⟨rfl, hb⟩; have hl := Link.mk hb; have hs := hb.size; (try simp at hs); clear hb) | (go_at_call 5; (with_reducible refine (DrawOrbitsOf_E b n c _ (HC.out.link (LowK.lnk findLow)) hn (fun a ha => Nat.lt_of_lt_of_le (HB.out a ha) (LowK.size findLow))).mono ?_); (rintro e w1 ⟨p, v, L, rfl, hO, hL, hl1⟩; obtain ⟨bL, cL, rfl, hM, -⟩ := OwnK.listM hO rfl; obtain ⟨Ls, cd, r, e0, F⟩ := grp_facts p L.length L (by omega); have HF := Lib.hid F; have HM := Lib.hid hM; obtain ⟨m, hm⟩ : ∃ m, Ls.length = m := ⟨_, rfl⟩; have HLm := Lib.hid hm; have hl1' := LowK.lnk hl1; have hz1 := LowK.size hl1; clear F hM hO hm)) | (go_at_call 6; (with_reducible refine (HF.out.io _ bL cL (HM.out.link (LowK.lnk (findLow (w := w1))))).mono ?_); (intro e W1 hTab; obtain ⟨b1, c1, T1, rfl, hm1, hL1, hH1, hR1, hlo1⟩ := (TabC.e HLm.out hTab).out; have hlk1 := LowK.lnk hlo1; have hzo1 := LowK.size hlo1; have HM1 := Lib.hid hm1; have HL1 := Lib.hid hL1; have HH1 := Lib.hid hH1; have HR1 := Lib.hid hR1; clear hm1 hL1 hH1 hR1 hTab)) | (go_at_call 7; (with_reducible refine (HF.out.so _ bL cL (HM.out.link (LowK.lnk (findLow (w := w1))))).mono ?_); (intro e W0 hTab; obtain ⟨b0, c0, T0, rfl, hm0, hL0, hH0, hR0, hlo0⟩ := (TabC.e HLm.out hTab).out; have hlk0 := LowK.lnk hlo0; have hzo0 := LowK.size hlo0; have HM0 := Lib.hid hm0; have HL0 := Lib.hid hL0; have HH0 := Lib.hid hH0; have HR0 := Lib.hid hR0; clear hm0 hL0 hH0 hR0 hTab)) | (go_at_call 8; (with_reducible refine (sets9_K b1 b0 m c1 c0 T1 T0 Ls _ HM1.out HM0.out HL1.out HL0.out (by have := HF.out.len; have := HLm.out; omega) (fun l hl => Nat.le_trans (HF.out.lens l hl) (by decide)) (HH1.out.link (LowK.lnk (findLow (w := W1)))) (HH0.out.link (LowK.lnk (findLow (w := W0)))) (HR1.out.link (LowK.lnk (findLow (w := W1)))) (HR0.out.link (LowK.lnk (findLow (w := W0))))).mono ?_); rintro e w' ⟨rfl, hb⟩; have hl := Link.mk hb; have hs := hb.size; (try simp at hs); clear hb) | (go_at_call 9; (with_reducible refine (HF.out.ig _ bL cL (HM.out.link (LowK.lnk (findLow (w := w1))))).mono ?_); rintro e w' ⟨rfl, hb⟩; have hl := Link.mk hb; have hs := hb.size; (try simp at hs); clear hb) | (go_at_call 10; (with_reducible refine (HF.out.sg _ bL cL (HM.out.link (LowK.lnk (findLow (w := w1))))).mono ?_); rintro e w' ⟨rfl, hb⟩; have hl := Link.mk hb; have hs := hb.size; (try simp at hs); clear hb) | (go_at_call 11; (with_reducible refine (DrawAreInOneOrbit_E b n c _ (HC.out.link (LowK.lnk findLow)) hn (fun a ha => Nat.lt_of_lt_of_le (HB.out a ha) (LowK.size findLow))).mono ?_); (rintro e w2 ⟨q, v2, L2, x, y, rfl, hO2, hL2, hl2⟩; obtain ⟨bD, cD, rfl, hM2, -⟩ := OwnK.listM hO2 rfl; obtain ⟨v3, e3, HS3, HI3⟩ := areIn_both q L2.length L2 x y (by omega); have HSS := Lib.hid HS3; have HII := Lib.hid HI3; have HMD := Lib.hid hM2; have hlk2 := LowK.lnk hl2; have hz2 := LowK.size hl2; clear HS3 HI3 hM2 hO2)) | (go_at_call 13; (with_reducible refine (HSS.out _ bD cD (HMD.out.link (LowK.lnk (findLow (w := w2))))).mono ?_); rintro e w' ⟨rfl, hb⟩; have hl := Link.mk hb; have hs := hb.size; (try simp at hs); clear hb) | (go_at_call 12; (with_reducible refine (HII.out _ bD cD (HMD.out.link (LowK.lnk (findLow (w := w2))))).mono ?_); rintro e w' ⟨rfl, hb⟩; have hl := Link.mk hb; have hs := hb.size; (try simp at hs); clear hb) | ((with_reducible apply region_gd (id := 28)); refine region_QA (id := 28) 23 ?_; apply Exists.intro; refine ⟨fun G => ?_, fun W hl => ?_⟩; (· (simp only [List.take_succ_cons, List.take_zero]; (repeat (first | go_big_quiet_skip | (go_big_quiet_want; first | (refine q_loadS ?_; simp only [Act.put, List.setIfInBounds_toArray, List.set_cons_zero, List.set_cons_succ]; go_big_quiet_on) | (refine q_load ?_; simp only [Act.put, List.setIfInBounds_toArray, List.set_cons_zero, List.set_cons_succ]; go_big_quiet_on) | (go_big_quiet_op; first | go_big_quiet_on | (apply Exists.intro; refine ⟨fun g => ?_, ?_⟩; (· (have hl := growL g; first | (go_at_call 4; with_reducible exact grow_ret (big_E b n c _ (decide_eq_false (by omega)))) | (go_at_call 8; with_reducible exact grow_ret (sets9_K b1 b0 m c1 c0 T1 T0 Ls _ HM1.out HM0.out HL1.out HL0.out (by have := HF.out.len; have := HLm.out; omega) (fun l hl => Nat.le_trans (HF.out.lens l hl) (by decide)) (HH1.out.link (LowK.lnk (findLow (w := W1)))) (HH0.out.link (LowK.lnk (findLow (w := W0)))) (HR1.out.link (LowK.lnk (findLow (w := W1)))) (HR0.out.link (LowK.lnk (findLow (w := W0)))))) | (go_at_call 9; with_reducible exact grow_ret (HF.out.ig _ bL cL (HM.out.link (LowK.lnk (findLow (w := w1)))))) | (go_at_call 10; with_reducible exact grow_ret (HF.out.sg _ bL cL (HM.out.link (LowK.lnk (findLow (w := w1)))))) | (go_at_call 13; with_reducible exact grow_ret (HSS.out _ bD cD (HMD.out.link (LowK.lnk (findLow (w := w2)))))) | (go_at_call 12; with_reducible exact grow_ret (HII.out _ bD cD (HMD.out.link (LowK.lnk (findLow (w := w2)))))))); go_big_quiet_on))))); exact rfl)); have hs := hl.out.size; (try simp at hs); simp only [List.drop_succ_cons, List.drop_zero]))
  · rename_i h1
    have hm0 : m = 0 := by
      have := HLm.out
      rw [HF.out.bad (by simpa using h1)] at this
      exact this.symm
    subst hm0
    (apply ret_one Try.results3; (conv => lhs; whnf); exact rfl)
    exact ret_ret (by simp) findLow
  · rename_i h1 K0 hK0
    obtain rfl : cd = 0 := by simpa using h1
    obtain ⟨N, rfl, h3, h13, hpos, hsum, hdv, hone⟩ := HF.out.good rfl
    clear h1
    have hlens := HF.out.lens
    have hm183 : m ≤ 183 := by have := HF.out.len; have := HLm.out; omega
    refine at_world _ (fun V => ListM V bL L.length L ∧ HdrK V b1 T1 ∧ RowsP V T1 ∧ LowK w V) ⟨HM.out.link (LowK.lnk (findLow (w := w1))), HH1.out.link (LowK.lnk (findLow (w := W1))), HR1.out.link (LowK.lnk (findLow (w := W1))), findLow⟩ (fun V hV => ?_)
    obtain ⟨hM5, hH5, hR5, hlow⟩ := hV
    simp only [bne_self_eq_false]
    rw [← sumT_all T1 HL1.out, HM1.out] at hsum
    go_loopw [21, 22] (fun tv iv wr => ∃ (i : Nat), i ≤ m ∧ iv = .int .i64 (i : Int) ∧ tv = .int .i64 (sumT T1 i : Int) ∧ sumT T1 i ≤ i * 183 ∧ LowK V wr) (fun tv iv wr => m - (intOf iv).toNat)
    case atStart => exact ⟨0, Nat.zero_le _, rfl, rfl, Nat.le_refl _, LowK.refl _⟩
    case round =>
      obtain ⟨i, hi, rfl, rfl, hsu, hVr⟩ := hrel
      by_cases hlt : i < m
      · have hlT : i < T1.length := by rw [HM1.out]; exact hlt
        obtain ⟨g, rfl, hc⟩ := hH5.link (LowK.lnk hVr) (by omega)
        have k1 := hc i hlT
        have hmem : (T1.getD i (0, 0, [])).2.2 ∈ Ls := by rw [← HL1.out]; exact List.mem_map_of_mem (getT_mem (T := T1) (j := i) hlT)
        have hnx := sumT_next hlT
        have hp0 := hpos _ hmem
        have hl1' := hlens _ hmem
        have hd1 : e0 = 0 → ((T1.getD i (0, 0, [])).2.2.length : Int) ∣ r := fun h => (hdv h).2 _ hmem
        clear hc hmem
        generalize T1.getD i (0, 0, []) = t at *
        obtain ⟨a, ca, l⟩ := t
        replace k1 : CellK wr g i (.slice (some ⟨a, 0, none⟩) l.length ca) := k1
        replace hnx : sumT T1 (i + 1) = sumT T1 i + l.length := hnx
        replace hp0 : 0 < l.length := hp0
        replace hl1' : l.length ≤ 183 := hl1'
        replace hd1 : e0 = 0 → (l.length : Int) ∣ r := hd1
        generalize l.length = len at *
        generalize sumT T1 i = su at *
        have hne : ((len : Int) == 0) = false := by simp; omega
        have hcell := k1.out
        by_cases he : e0 = 0
        · subst he
          have hrem : r.tmod (len : Int) = 0 := Int.tmod_eq_zero_of_dvd (hd1 rfl)
          have hsb : su ≤ 183 * 183 := Nat.le_trans hsu (Nat.mul_le_mul_right _ hm183 |> Nat.le_trans (Nat.mul_le_mul_right _ hi))
          go_wp2_with (first | (refine wl_loadS ?_) | (refine wl_load ?_) | (refine wl_storeS ?_) | (refine wl_store ?_) | (refine wl_build ?_) | (refine wl_slice ?_) | (refine wl_append ?_; intro v' w' ho hg hb; have hs := hg.size; (try simp at hs); (try rw [ptCs_end] at ho); (try rw [ints_end] at ho); (try simp only [Nat.zero_add, Nat.reduceAdd, List.nil_append, List.cons_append] at ho)) | ((with_reducible apply region_gd (id := 28)); refine region_QA (id := 28) 23 ?_; apply Exists.intro; refine ⟨fun G => ?_, fun W hl => ?_⟩; (· (simp only [List.take_succ_cons, List.take_zero]; (repeat (first | go_big_quiet_skip | (go_big_quiet_want; first | (refine q_loadS ?_; simp only [Act.put, List.setIfInBounds_toArray, List.set_cons_zero, List.set_cons_succ]; go_big_quiet_on) | (refine q_load ?_; simp only [Act.put, List.setIfInBounds_toArray, List.set_cons_zero, List.set_cons_succ]; go_big_quiet_on) | (go_big_quiet_op; first | go_big_quiet_on)))); exact rfl)); have hs := hl.out.size; (try simp at hs); simp only [List.drop_succ_cons, List.drop_zero]))
          go_roundw
          case rel => exact ⟨i + 1, by omega, by go_num, by (rw [hnx]; go_num), by omega, findLow⟩
          case measure => (simp [intOf]; try omega)
        · have hee : (e0 == 0) = false := by simpa using he
          have hsb : su ≤ 183 * 183 := Nat.le_trans hsu (Nat.mul_le_mul_right _ hm183 |> Nat.le_trans (Nat.mul_le_mul_right _ hi))
          go_wp2_with (first | (refine wl_loadS ?_) | (refine wl_load ?_) | (refine wl_storeS ?_) | (refine wl_store ?_) | (refine wl_build ?_) | (refine wl_slice ?_) | (refine wl_append ?_; intro v' w' ho hg hb; have hs := hg.size; (try simp at hs); (try rw [ptCs_end] at ho); (try rw [ints_end] at ho); (try simp only [Nat.zero_add, Nat.reduceAdd, List.nil_append, List.cons_append] at ho)) | ((with_reducible apply region_gd (id := 28)); refine region_QA (id := 28) 23 ?_; apply Exists.intro; refine ⟨fun G => ?_, fun W hl => ?_⟩; (· (simp only [List.take_succ_cons, List.take_zero]; (repeat (first | go_big_quiet_skip | (go_big_quiet_want; first | (refine q_loadS ?_; simp only [Act.put, List.setIfInBounds_toArray, List.set_cons_zero, List.set_cons_succ]; go_big_quiet_on) | (refine q_load ?_; simp only [Act.put, List.setIfInBounds_toArray, List.set_cons_zero, List.set_cons_succ]; go_big_quiet_on) | (go_big_quiet_op; first | go_big_quiet_on)))); exact rfl)); have hs := hl.out.size; (try simp at hs); simp only [List.drop_succ_cons, List.drop_zero]))
          go_roundw
          case rel => exact ⟨i + 1, by omega, by go_num, by (rw [hnx]; go_num), by omega, findLow⟩
          case measure => (simp [intOf]; try omega)
      · obtain rfl : m = i := by omega
        have hmp : 0 < m := by
          rcases Nat.eq_zero_or_pos m with h0 | h0
          · subst h0
            have : sumT T1 0 = 0 := rfl
            omega
          · exact h0
        have hlT : 0 < T1.length := by rw [HM1.out]; exact hmp
        obtain ⟨g, rfl, hc⟩ := hH5.link (LowK.lnk hVr) (by omega)
        have k1 := hc 0 hlT
        have hmT := getT_mem (T := T1) (j := 0) hlT
        have p1 := (hR5.link (LowK.lnk hVr)) _ hmT
        have hmem : (T1.getD 0 (0, 0, [])).2.2 ∈ Ls := by rw [← HL1.out]; exact List.mem_map_of_mem hmT
        have hp0 := hpos _ hmem
        have hl1' := hlens _ hmem
        have ho := hone _ hmem
        have hM6 := hM5.link (LowK.lnk hVr)
        clear hc hmem hmT hone hpos hdv hlens hM5 hH5 hR5
        generalize T1.getD 0 (0, 0, []) = t at *
        obtain ⟨a, ca, l⟩ := t
        replace k1 : CellK wr g 0 (.slice (some ⟨a, 0, none⟩) l.length ca) := k1
        replace p1 : PtsK wr a 0 l.length l := p1
        replace hp0 : 0 < l.length := hp0
        replace hl1' : l.length ≤ 183 := hl1'
        replace ho : ∀ x ∈ l, ∀ y ∈ l, ∀ (W : World) (b : Option Addr) (c : Nat), ListM W b L.length L → Calls Try.prog 12 #[.int .i64 (N : Int), .slice b L.length c, pV x, pV y] W (Ret W (.tuple #[.bool true, .int .i64 0])) := ho
        obtain ⟨j, hj⟩ : ∃ j, l.length = j + 1 := ⟨l.length - 1, by omega⟩
        have hq0 : 0 < l.length := by omega
        have hqj : j < l.length := by omega
        have HO := Lib.hid (ho (l[0]'hq0) (List.getElem_mem hq0) (l[j]'hqj) (List.getElem_mem hqj))
        rw [hj] at k1 p1
        clear ho
        have hnn : (N : Int) * (N : Int) ≤ 169 := by
          have : N * N ≤ 13 * 13 := Nat.mul_le_mul (by omega) (by omega)
          exact_mod_cast this
        have hnn0 : 0 ≤ (N : Int) * (N : Int) := by exact_mod_cast Nat.zero_le _
        have htot : ((sumT T1 m : Nat) : Int) = (N : Int) * (N : Int) + (N : Int) + 1 := by
          rw [hsum]; push_cast; omega
        rw [htot]
        go_wp2_with (first | (refine wl_loadS ?_) | (refine wl_load ?_) | (refine wl_storeS ?_) | (refine wl_store ?_) | (refine wl_build ?_) | (refine wl_slice ?_) | (refine wl_append ?_; intro v' w' ho hg hb; have hs := hg.size; (try simp at hs); (try rw [ptCs_end] at ho); (try rw [ints_end] at ho); (try simp only [Nat.zero_add, Nat.reduceAdd, List.nil_append, List.cons_append] at ho)) | (go_at_call 12; (with_reducible refine (HO.out _ bL cL (hM6.link (LowK.lnk (findLow (w := wr))))).mono ?_); rintro e w' ⟨rfl, hb⟩; have hl := Link.mk hb; have hs := hb.size; (try simp at hs); clear hb) | ((with_reducible apply region_gd (id := 28)); refine region_QA (id := 28) 23 ?_; apply Exists.intro; refine ⟨fun G => ?_, fun W hl => ?_⟩; (· (simp only [List.take_succ_cons, List.take_zero]; (repeat (first | go_big_quiet_skip | (go_big_quiet_want; first | (refine q_loadS ?_; simp only [Act.put, List.setIfInBounds_toArray, List.set_cons_zero, List.set_cons_succ]; go_big_quiet_on) | (refine q_load ?_; simp only [Act.put, List.setIfInBounds_toArray, List.set_cons_zero, List.set_cons_succ]; go_big_quiet_on) | (go_big_quiet_op; first | go_big_quiet_on | (apply Exists.intro; refine ⟨fun g => ?_, ?_⟩; (· (have hl := growL g; first | (go_at_call 12; with_reducible exact grow_ret (HO.out _ bL cL (hM6.link (LowK.lnk (findLow (w := wr)))))))); go_big_quiet_on))))); exact rfl)); have hs := hl.out.size; (try simp at hs); simp only [List.drop_succ_cons, List.drop_zero]))
        (apply ret_one Try.results3; (conv => lhs; whnf); exact rfl)
        exact ret_ret rfl (LowK.link (LowK.lnk (findLow (w := V))) hlow)
theorem FnGroups_walk (b : Option Addr) (n c : Nat) (w : World) (hC : CodeK w b n) (hb : ∀ a, b = some a → a.block < w.heap.size) : Calls Try.prog 3 #[.slice b n c] w (Ret w (.bool true)) := by
  by_cases hn : n ≤ 4096
  · exact FnGroups_small b n c w hC hn hb
  · exact FnGroups_big b n c w (by omega)
end Go.Proofs.Ytnpmdchphaenaaa

