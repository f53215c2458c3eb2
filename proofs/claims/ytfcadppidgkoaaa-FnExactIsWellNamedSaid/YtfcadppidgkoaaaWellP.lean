/- Whether no name is bound twice, or bound and free. No program in sight. -/
import Derived.Test.YtfcadppidgkoaaaSets
namespace Go.Proofs.Ytfcadppidgkoaaa
open Go.RowKit Go.Proofs.YtfcadppidgkoaaaW.PrintWords Go.Proofs.YtfcadppidgkoaaaW.PrintMore

/-- Whether a name in a list is in a set or stands in front of it. -/
def twF (p : UInt8 → Bool) : List UInt8 → Bool
  | [] => false
  | b :: l => p b || twF (orS p (eqS b)) l
theorem twF_snoc (p : UInt8 → Bool) (l : List UInt8) (b : UInt8) : twF p (l ++ [b]) = (twF p l || orS p (inS l) b) := by
  induction l generalizing p with
  | nil => simp [twF, orS, inS]
  | cons c l ih =>
    simp only [List.cons_append, twF, ih]
    simp only [orS, eqS, inS, List.contains_cons, Bool.or_assoc]
/-- The names that the signs of a list bind. -/
def blS (l : List Tm) : List UInt8 := (l.map fun u => bndOf u.kind u.nb).flatten
theorem blS_snoc (l : List Tm) (u : Tm) : blS (l ++ [u]) = blS l ++ bndOf u.kind u.nb := by simp [blS]
theorem bl_pre {t : Tm} (h : Wf isLet t) : blS (pre t) = t.binders := by
  induction t with
  | leaf k a b => obtain rfl := h.1; rfl
  | un k a b t ih => simp only [pre, blS, List.map_cons, List.flatten_cons, Tm.kind, Tm.nb, Tm.binders]; rw [← ih h.2]; rfl
  | bin k a b t u ih1 ih2 =>
    simp only [pre, blS, List.map_cons, List.flatten_cons, List.map_append, List.flatten_append, Tm.kind, Tm.nb, Tm.binders]
    rw [← ih1 h.2.2.2.1, ← ih2 h.2.2.2.2]
    rcases kind_bin h with rfl | rfl <;> rfl

end Go.Proofs.Ytfcadppidgkoaaa
