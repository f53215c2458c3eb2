/- What guarded, simple and sends-last ask of one sign. No program in sight. -/
import Derived.Test.YtjinjanjjecmiaaPre
import Derived.Lib.Bytealg
namespace Go.Proofs.Ytjinjanjjecmiaa
open Go.RowKit Go.Proofs.YtjinjanjjecmiaaW.PrintWords

theorem indexByte_has (l : List UInt8) (c : UInt8) : decide (0 ≤ Lib.indexByte l c) = l.contains c := by
  induction l with
  | nil => rfl
  | cons d l ih =>
    unfold Lib.indexByte
    by_cases h : d = c
    · subst h; simp
    · have h1 : (d == c) = false := by simpa using h
      have h2 : (c == d) = false := by simpa using fun e : c = d => h e.symm
      have := Lib.indexByte_ge l c
      rw [List.contains_cons, h2, Bool.false_or, ← ih, h1]
      simp only [Bool.false_eq_true, if_false, beq_iff_eq]
      split
      · rename_i h3; rw [h3]
      · rw [decide_eq_decide]; omega
/-- A kind that a part of a sum may be of. -/
def inG (c : UInt8) : Bool := [33, 63, 126, 43, 48].contains c
def guaP : Tm → Bool
  | .bin k _ _ t u => vl k != 43 || (inG t.kind && inG u.kind)
  | _ => true
def simP : Tm → Bool
  | .un k _ _ t => vl k != 42 || vl t.kind == 63
  | _ => true
def senP : Tm → Bool
  | .leaf _ _ _ => true
  | .un k _ _ t => vl k != 33 || vl t.kind == 48
  | .bin k _ _ t u => vl k != 43 || (vl t.kind != 33 && vl u.kind != 33)

/-- The kinds of signs. -/
theorem kind_leaf {P : UInt8 → Bool} {k a b : UInt8} (h : Wf P (.leaf k a b)) : k = 48 := h.1
theorem kind_un {P : UInt8 → Bool} {k a b : UInt8} {t : Tm} (h : Wf P (.un k a b t)) : k ≠ 48 ∧ k ≠ 43 ∧ k ≠ 38 := by
  rcases h.1 with ⟨h, _⟩ | ⟨h, _⟩ | ⟨h, _⟩
  · rcases h with rfl | rfl | rfl <;> decide
  · subst h; decide
  · rcases h with rfl | rfl <;> decide
theorem kind_bin {P : UInt8 → Bool} {k a b : UInt8} {t u : Tm} (h : Wf P (.bin k a b t u)) : k = 43 ∨ k = 38 := h.1
theorem vl_bne (c d : UInt8) : (vl c != vl d) = (c != d) := by
  rw [Bool.eq_iff_iff]; simp [vl_inj]
theorem vl_beq (c d : UInt8) : (vl c == vl d) = (c == d) := by
  rw [Bool.eq_iff_iff]; simp [vl_inj]

end Go.Proofs.Ytjinjanjjecmiaa
