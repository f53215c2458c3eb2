/- Whether terms are alike by names: levels of names against lists of names. No program in sight. -/
import Derived.Test.YtjinjanjjecmiaaSets
namespace Go.Proofs.Ytjinjanjjecmiaa
open Go.RowKit Go.Proofs.YtjinjanjjecmiaaW.PrintWords Go.Proofs.YtjinjanjjecmiaaW.PrintMore

/-- The number of the sign that binds a name, among the names bound around, the last ones first; 0 if none does. -/
def lev : List UInt8 → UInt8 → Nat
  | [], _ => 0
  | d :: r, c => if c = d then r.length + 1 else lev r c
theorem lev_le (l : List UInt8) (c : UInt8) : lev l c ≤ l.length := by
  induction l with
  | nil => simp [lev]
  | cons d r ih => simp only [lev, List.length_cons]; split <;> omega
/-- Whether two names are the same, as the program asks. -/
def sameI (x y : List UInt8) (a b : UInt8) : Bool := decide (lev x a = lev y b) && (decide (0 < lev x a) || decide (a = b))
/-- Whether two names are the same, as the reference asks. -/
def sameL : List UInt8 → List UInt8 → UInt8 → UInt8 → Bool
  | d :: x, e :: y, a, b => if d = a ∨ e = b then decide (d = a) && decide (e = b) else sameL x y a b
  | _, _, a, b => decide (a = b)
theorem same_eq : ∀ (x y : List UInt8) (a b : UInt8), x.length = y.length → sameI x y a b = sameL x y a b
  | [], [], a, b, _ => by simp [sameI, sameL, lev]
  | d :: x, e :: y, a, b, h => by
    have hl : x.length = y.length := by simpa using h
    have ih := same_eq x y a b hl
    have h1 := lev_le x a
    have h2 := lev_le y b
    simp only [sameL]
    by_cases ha : a = d
    · by_cases hb : b = e
      · subst ha hb
        simp [sameI, lev, hl]
      · subst ha
        rw [if_pos (.inl rfl)]
        have hb' : ¬ e = b := fun h => hb h.symm
        simp only [sameI, lev, if_neg hb, if_true, hb', decide_false, Bool.and_false]
        rw [show decide (x.length + 1 = lev y b) = false from by simp; omega, Bool.false_and]
    · by_cases hb : b = e
      · subst hb
        rw [if_pos (.inr rfl)]
        have ha' : ¬ d = a := fun h => ha h.symm
        simp only [sameI, lev, if_neg ha, if_true, ha', decide_false, Bool.false_and]
        rw [show decide (lev x a = y.length + 1) = false from by simp; omega, Bool.false_and]
      · rw [if_neg (by rintro (h | h); exact ha h.symm; exact hb h.symm), ← ih]
        simp only [sameI, lev, if_neg ha, if_neg hb]
  | [], _ :: _, _, _, h => by simp at h
  | _ :: _, [], _, _, h => by simp at h

/-- Whether two terms are alike by names. -/
def alp : Tm → Tm → List UInt8 → List UInt8 → Bool
  | .leaf k _ _, .leaf k' _ _, _, _ => decide (k = k')
  | .un k a b t, .un k' a' b' u, x, y => decide (k = k') &&
      (if k = 33 ∨ k = 61 then sameI x y a a' && sameI x y b b' && alp t u x y
       else if k = 63 then sameI x y a a' && alp t u (b :: x) (b' :: y)
       else if k = 35 then alp t u (b :: x) (b' :: y)
       else alp t u x y)
  | .bin k _ _ t1 t2, .bin k' _ _ u1 u2, x, y => decide (k = k') && (alp t1 u1 x y && alp t2 u2 x y)
  | _, _, _, _ => false
end Go.Proofs.Ytjinjanjjecmiaa
