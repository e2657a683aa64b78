/- Plain words: a fourth harmonic point: the points it is made with are there. -/
import Derived.Test.YthkbhaaodegocaaF1
namespace Go.Proofs.Ythkbhaaodegocaa
set_option linter.unusedVariables false
set_option linter.unusedSimpArgs false
def headP (l : List Pt) : Pt := l.headD (0, 0, 0)
theorem head_at {f : Pt → Bool} {l : List Pt} {k : Nat} (h : ∀ a ∈ l.take k, f a = false) (hk : k < l.length) (hf : f (l.getD k (0, 0, 0)) = true) : headP (l.filter f) = l.getD k (0, 0, 0) := by
  have e : l = l.take k ++ (l.getD k (0, 0, 0) :: l.drop (k + 1)) := by
    have h1 : l.getD k (0, 0, 0) = l[k] := by simp [List.getD, hk]
    rw [h1, List.getElem_cons_drop, List.take_append_drop]
  generalize l.getD k (0, 0, 0) = d at *
  generalize l.take k = t at *
  generalize l.drop (k + 1) = r at *
  subst e
  rw [List.filter_append, List.filter_eq_nil_iff.2 (fun a ha => by rw [h a ha]; decide), List.nil_append, List.filter_cons, if_pos hf]
  rfl
theorem nodup3 : (allP 3).Nodup := by decide +kernel
theorem nodup5 : (allP 5).Nodup := by decide +kernel
theorem nodup7 : (allP 7).Nodup := by decide +kernel
theorem nodup11 : (allP 11).Nodup := by decide +kernel
theorem nodup13 : (allP 13).Nodup := by decide +kernel
theorem nodup_allP {n : Nat} (hp : prB (n : Int) = true) : (allP n).Nodup := by
  have h := prB_cases hp
  have : n = 3 ∨ n = 5 ∨ n = 7 ∨ n = 11 ∨ n = 13 := by omega
  rcases this with rfl | rfl | rfl | rfl | rfl
  · exact nodup3
  · exact nodup5
  · exact nodup7
  · exact nodup11
  · exact nodup13
/-- Of three different things one is neither of two. -/
theorem third {l : List Pt} (h : l.Nodup) (hl : 3 ≤ l.length) (a b : Pt) : ∃ x ∈ l, x ≠ a ∧ x ≠ b := by
  match l, hl with
  | x :: y :: z :: r, _ =>
    simp only [List.nodup_cons, List.mem_cons, not_or] at h
    obtain ⟨⟨xy, xz, _⟩, ⟨yz, _⟩, _⟩ := h
    by_cases hx : x = a ∨ x = b
    · by_cases hy : y = a ∨ y = b
      · refine ⟨z, by simp, ?_, ?_⟩
        · rintro rfl; rcases hx with rfl | rfl <;> rcases hy with rfl | rfl <;> simp_all
        · rintro rfl; rcases hx with rfl | rfl <;> rcases hy with rfl | rfl <;> simp_all
      · exact ⟨y, by simp, fun e => hy (.inl e), fun e => hy (.inr e)⟩
    · exact ⟨x, by simp, fun e => hx (.inl e), fun e => hx (.inr e)⟩
theorem allP_pt {n : Nat} (hp : prB (n : Int) = true) {a : Pt} (h : a ∈ allP n) : ptB (n : Int) a.1 a.2.1 a.2.2 = true := by
  have hb := prB_bd hp
  have mk : ∀ a b c : Int, (0 ≤ a ∧ a ≤ (n : Int) - 1) → (0 ≤ b ∧ b ≤ (n : Int) - 1) → (0 ≤ c ∧ c ≤ (n : Int) - 1) → (a = 1 ∨ (a = 0 ∧ b = 1) ∨ (a = 0 ∧ b = 0 ∧ c = 1)) → ptB (n : Int) a b c = true := by
    intro a b c ha hb hc hd
    unfold ptB normB numsB
    simp only [hp, Bool.true_and, Bool.and_eq_true, List.all_cons, List.all_nil, Bool.and_true, numB_iff]
    refine ⟨?_, ha, hb, hc⟩
    rcases hd with rfl | ⟨rfl, rfl⟩ | ⟨rfl, rfl, rfl⟩ <;> rfl
  simp only [allP, pB, pA, pR, List.mem_append, List.mem_cons, List.mem_map, List.mem_range, List.mem_flatMap] at h
  rcases h with (rfl | ⟨z, hz, rfl⟩) | ⟨y, hy, z, hz, rfl⟩
  · exact mk 0 0 1 (by omega) (by omega) (by omega) (.inr (.inr ⟨rfl, rfl, rfl⟩))
  · exact mk 0 1 z (by omega) (by omega) (by omega) (.inr (.inl ⟨rfl, rfl⟩))
  · exact mk 1 y z (by omega) (by omega) (by omega) (.inl rfl)
theorem mod_fac (p f x : Int) : ∃ q, x % p * f % p = x * f - p * q := by
  refine ⟨x / p * f + (x % p * f) / p, ?_⟩
  have h1 := Int.emod_add_mul_ediv x p
  have h2 := Int.emod_add_mul_ediv (x % p * f) p
  generalize x / p = q1 at *
  generalize (x % p * f) / p = q2 at *
  generalize x % p * f % p = r2 at *
  grind
/-- A point lies on each line through it. -/
theorem on_crsN (p : Int) (a b : Pt) : onB p a (crsN p a b) = true ∧ onB p b (crsN p a b) = true := by
  obtain ⟨a0, a1, a2⟩ := a
  obtain ⟨b0, b1, b2⟩ := b
  unfold onB crsN nrm3 crs
  simp only
  generalize facL p _ = f
  obtain ⟨q0, e0⟩ := mod_fac p f (a1 * b2 - a2 * b1)
  obtain ⟨q1, e1⟩ := mod_fac p f (a2 * b0 - a0 * b2)
  obtain ⟨q2, e2⟩ := mod_fac p f (a0 * b1 - a1 * b0)
  rw [e0, e1, e2]
  simp only [beq_iff_eq]
  refine ⟨Int.emod_eq_zero_of_dvd ⟨-(a0 * q0 + a1 * q1 + a2 * q2), ?_⟩, Int.emod_eq_zero_of_dvd ⟨-(b0 * q0 + b1 * q1 + b2 * q2), ?_⟩⟩
  · grind
  · grind
/-- The first point off the line of a and b. -/
def quadR1 (n : Nat) (a b : Pt) : Pt := headP ((allP n).filter (fun x => !onB (n : Int) x (crsN n a b)))
/-- The first point of the line of a and r that is neither. -/
def quadS (n : Nat) (a r : Pt) : Pt := headP ((allP n).filter (fun x => onB (n : Int) x (crsN n a r) && (!eqP x a && !eqP x r)))
/-- The fourth harmonic point, and the code. -/
def quadR (p : Int) (a b c : Pt) : Pt × Int :=
  if codeOf p (ptsB p [a, b, c]) ≠ 0 then ((0, 0, 0), codeOf p (ptsB p [a, b, c])) else
  if threeB p a b c = false then ((0, 0, 0), 5) else
  let r := quadR1 p.toNat a b
  let s := quadS p.toNat a r
  let t := crsN p (crsN p b s) (crsN p c r)
  let u := crsN p (crsN p b r) (crsN p a t)
  (crsN p (crsN p a b) (crsN p s u), 0)
/-- What both programs lean on: the two points are found. -/
theorem quad_facts {n : Nat} {a b : Pt} (ha : ptB (n : Int) a.1 a.2.1 a.2.2 = true) (hb : ptB (n : Int) b.1 b.2.1 b.2.2 = true) (hab : eqP a b = false) :
    (∃ x ∈ allP n, onB (n : Int) x (crsN n a b) = false) ∧ ∃ x ∈ allP n, (onB (n : Int) x (crsN n a (quadR1 n a b)) = true ∧ x ≠ a ∧ x ≠ quadR1 n a b) := by
  have hp := (pt_facts ha).1
  have hl := crsN_pt ha hb hab
  have h1 := (line_facts hl).2
  refine ⟨h1, ?_⟩
  have hr : quadR1 n a b ∈ (allP n).filter (fun x => !onB (n : Int) x (crsN n a b)) := by
    unfold quadR1 headP
    obtain ⟨x, hx, hx2⟩ := h1
    have : x ∈ (allP n).filter (fun x => !onB (n : Int) x (crsN n a b)) := List.mem_filter.2 ⟨hx, by rw [hx2]; rfl⟩
    cases hh : (allP n).filter (fun x => !onB (n : Int) x (crsN n a b)) with
    | nil => rw [hh] at this; cases this
    | cons y r => simp
  obtain ⟨hr1, hr2⟩ := List.mem_filter.1 hr
  have hne : eqP a (quadR1 n a b) = false := by
    cases he : eqP a (quadR1 n a b) with
    | false => rfl
    | true =>
      have e := eqP_iff.1 he
      rw [← e, (on_crsN (n : Int) a b).1] at hr2
      cases hr2
  have hs := crsN_pt ha (allP_pt hp hr1) hne
  obtain ⟨x, hx, h2⟩ := third ((nodup_allP hp).filter _) (Nat.le_trans (by decide) (line_facts hs).1) a (quadR1 n a b)
  obtain ⟨hx1, hx2⟩ := List.mem_filter.1 hx
  exact ⟨x, hx1, hx2, h2⟩
end Go.Proofs.Ythkbhaaodegocaa
