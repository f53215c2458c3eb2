/- Whether a name is used below a repetition: by counting, and as the reference asks. No program in sight. -/
import Derived.Test.YtjgfgjhaghbehaaGreatUsesP
import Derived.Test.YtjgfgjhaghbehaaGreatFreeW
namespace Go.Proofs.YtjgfgjhaghbehaaGreat
open Go.RowKit Go.Proofs.YtjgfgjhaghbehaaGreatW.PrintWords Go.Proofs.YtjgfgjhaghbehaaGreatW.PrintMore
set_option linter.unusedVariables false

def repB (a : UInt8) : Tm → Bool
  | .leaf _ _ _ => false
  | .un k x y t => (k == 42 && t.fr a) || (!stops a k y && repB a t)
  | .bin _ _ _ t u => repB a t || repB a u
theorem bump_g_false (a k x y : UInt8) (u : Us) : (bump a false k x y u).g = u.g := by
  unfold bump; repeat' split
  all_goals simp [Us.inc]
theorem bump_g_le (a : UInt8) (rep : Bool) (k x y : UInt8) (u : Us) : u.g ≤ (bump a rep k x y u).g := by
  unfold bump; repeat' split
  all_goals simp [Us.inc]
  all_goals (try split) <;> omega
theorem us_g_le (a : UInt8) (t : Tm) : ∀ (rep : Bool) (u : Us), u.g ≤ (usF a rep t u).g := by
  induction t with
  | leaf => intro rep u; exact Nat.le_refl _
  | un k x y t ih =>
    intro rep u
    simp only [usF]
    have h1 := bump_g_le a (rep || k == 42) k x y u
    split
    · exact h1
    · exact Nat.le_trans h1 (ih _ _)
  | bin k x y t1 t2 ih1 ih2 =>
    intro rep u
    simp only [usF]
    exact Nat.le_trans (ih1 _ _) (ih2 _ _)
theorem bump_g_true (a k x y : UInt8) (u : Us) : (bump a true k x y u).g = u.g ↔ ¬ ((k = 33 ∨ k = 61) ∧ (x = a ∨ y = a) ∨ k = 63 ∧ x = a) := by
  unfold bump
  by_cases h1 : k = 33
  · subst h1
    by_cases h2 : x = a <;> by_cases h3 : y = a <;> simp [h2, h3, Us.inc] <;> omega
  · by_cases h4 : k = 63
    · subst h4
      by_cases h2 : x = a <;> simp [h2, Us.inc]
    · by_cases h5 : k = 61
      · subst h5
        by_cases h2 : x = a ∨ y = a <;> simp [h2, Us.inc]
      · simp [h1, h4, h5]
theorem fr_un (a k x y : UInt8) (t : Tm) : (Tm.un k x y t).fr a = true ↔ ((k = 33 ∨ k = 61) ∧ (x = a ∨ y = a) ∨ k = 63 ∧ x = a) ∨ (stops a k y = false ∧ t.fr a = true) := by
  have e1 : ∀ z : UInt8, eqS z a = true ↔ z = a := fun z => by simp only [eqS, beq_iff_eq]; exact ⟨Eq.symm, Eq.symm⟩
  by_cases h1 : k = 33 ∨ k = 61
  · have hs : stops a k y = false := by rcases h1 with rfl | rfl <;> simp [stops]
    have hk : k ≠ 63 := by rcases h1 with rfl | rfl <;> decide
    have e : (Tm.un k x y t).fr = orS t.fr (orS (eqS x) (eqS y)) := by simp only [Tm.fr]; rw [if_pos h1]
    rw [e, hs]
    simp only [orS, Bool.or_eq_true, e1, h1, hk, true_and, false_and, or_false]
    constructor
    · rintro (h | h)
      · exact .inr h
      · exact .inl h
    · rintro (h | h)
      · exact .inr h
      · exact .inl h
  · by_cases h2 : k = 63
    · subst h2
      have e : (Tm.un 63 x y t).fr = orS (minusS t.fr (eqS y)) (eqS x) := by simp [Tm.fr]
      rw [e]
      simp only [orS, minusS, Bool.or_eq_true, Bool.and_eq_true, e1, stops]
      by_cases hy : y = a
      · subst hy; simp [eqS]
      · have : eqS y a = false := by simpa [eqS] using fun h : a = y => hy h.symm
        simp [this, hy, or_comm]
    · by_cases h3 : k = 35
      · subst h3
        have e : (Tm.un 35 x y t).fr = minusS t.fr (eqS y) := by simp [Tm.fr]
        rw [e]
        simp only [minusS, Bool.and_eq_true, stops]
        by_cases hy : y = a
        · subst hy; simp [eqS]
        · have : eqS y a = false := by simpa [eqS] using fun h : a = y => hy h.symm
          simp [this, hy]
      · have e : (Tm.un k x y t).fr = t.fr := by simp only [Tm.fr]; rw [if_neg h1, if_neg h2, if_neg h3]
        rw [e]
        simp [h1, h2, h3, stops]
theorem us_true (a : UInt8) (t : Tm) : ∀ u : Us, (usF a true t u).g = u.g ↔ t.fr a = false := by
  induction t with
  | leaf => intro u; simp [usF, Tm.fr, noS]
  | un k x y t ih =>
    intro u
    have hf := fr_un a k x y t
    simp only [usF, Bool.true_or]
    have hb := bump_g_true a k x y u
    have hl := bump_g_le a true k x y u
    rw [← Bool.not_eq_true, hf]
    cases hs : stops a k y with
    | true =>
      rw [if_pos rfl, hb]
      simp
    | false =>
      rw [if_neg (by decide)]
      have h1 := us_g_le a t true (bump a true k x y u)
      have h2 := ih (bump a true k x y u)
      constructor
      · intro h
        rintro (h3 | ⟨_, h3⟩)
        · exact (hb.mp (by omega)) h3
        · have : (bump a true k x y u).g = u.g := by omega
          have h4 := h2.mp (by omega)
          rw [h3] at h4; cases h4
      · intro h
        have h5 : (bump a true k x y u).g = u.g := hb.mpr fun h3 => h (.inl h3)
        have h6 : t.fr a = false := by
          cases hx : t.fr a with
          | false => rfl
          | true => exact absurd (.inr ⟨rfl, hx⟩) h
        have := h2.mpr h6
        omega
  | bin k x y t1 t2 ih1 ih2 =>
    intro u
    simp only [usF, Tm.fr, orS]
    have h1 := us_g_le a t1 true u
    have h2 := us_g_le a t2 true (usF a true t1 u)
    have h3 := ih1 u
    have h4 := ih2 (usF a true t1 u)
    rw [Bool.or_eq_false_iff, ← h3, ← h4]
    omega
theorem rep_fr (a : UInt8) (t : Tm) : repB a t = true → t.fr a = true := by
  induction t with
  | leaf => intro h; simp [repB] at h
  | un k x y t ih =>
    intro h
    simp only [repB, Bool.or_eq_true, Bool.and_eq_true, beq_iff_eq, Bool.not_eq_true'] at h
    rw [fr_un]
    rcases h with ⟨h1, h2⟩ | ⟨h1, h2⟩
    · exact .inr ⟨by rw [h1]; simp [stops], h2⟩
    · exact .inr ⟨h1, ih h2⟩
  | bin k x y t1 t2 ih1 ih2 =>
    intro h
    simp only [repB, Bool.or_eq_true] at h
    simp only [Tm.fr, orS, Bool.or_eq_true]
    exact h.imp ih1 ih2
theorem us_false (a : UInt8) (t : Tm) : ∀ u : Us, (usF a false t u).g = u.g ↔ repB a t = false := by
  induction t with
  | leaf => intro u; simp [usF, repB]
  | un k x y t ih =>
    intro u
    simp only [usF, repB, Bool.false_or]
    by_cases hk : k = 42
    · subst hk
      have hs : stops a 42 y = false := by simp [stops]
      have hb : bump a true 42 x y u = u := bump_other (by decide) (by decide) (by decide)
      rw [hs, if_neg (by decide)]
      simp only [beq_self_eq_true, hb, Bool.true_and, Bool.not_false]
      rw [us_true]
      constructor
      · intro h
        rw [h, Bool.false_or]
        cases hr : repB a t with
        | false => rfl
        | true => rw [rep_fr a t hr] at h; cases h
      · intro h
        rw [Bool.or_eq_false_iff] at h
        exact h.1
    · have hk' : (k == 42) = false := by simpa using hk
      rw [hk']
      simp only [Bool.false_and, Bool.false_or]
      have hb := bump_g_false a k x y u
      cases hs : stops a k y with
      | true => simp [hb]
      | false =>
        have := ih (bump a false k x y u)
        simp [← this, hb]
  | bin k x y t1 t2 ih1 ih2 =>
    intro u
    simp only [usF, repB]
    have h1 := us_g_le a t1 false u
    have h2 := us_g_le a t2 false (usF a false t1 u)
    rw [Bool.or_eq_false_iff, ← ih1 u, ← ih2 (usF a false t1 u)]
    omega
theorem rep_kids (a : UInt8) {t : Tm} (h : Wf isLet t) : repB a t = ((t.kind == 42 && t.fr a) || (!stops a t.kind t.nb && t.kids.any (repB a))) := by
  cases t with
  | leaf k x y => obtain ⟨rfl, _⟩ := h; simp [repB, Tm.kind, Tm.kids]
  | un k x y t =>
    simp only [repB, Tm.kind, Tm.nb, Tm.kids, List.any_cons, List.any_nil, Bool.or_false]
    by_cases hk : k = 42
    · subst hk
      have e : (Tm.un 42 x y t).fr = t.fr := by simp [Tm.fr]
      rw [e]
    · have hk' : (k == 42) = false := by simpa using hk
      rw [hk', Bool.false_and, Bool.false_and]
  | bin k x y t1 t2 =>
    have hs : stops a k y = false := by rcases h.1 with rfl | rfl <;> simp [stops]
    have hk : (k == 42) = false := by rcases h.1 with rfl | rfl <;> rfl
    simp only [repB, Tm.kind, Tm.nb, Tm.kids, hs, hk, List.any_cons, List.any_nil, Bool.or_false, Bool.false_and, Bool.false_or, Bool.not_false, Bool.true_and]

end Go.Proofs.YtjgfgjhaghbehaaGreat
