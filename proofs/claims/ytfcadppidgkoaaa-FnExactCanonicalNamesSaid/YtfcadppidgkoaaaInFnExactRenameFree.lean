/- The reference's search for a byte. -/
import Derived.Test.YtfcadppidgkoaaaPFnExactRenameFreex
import Derived.Test.YtfcadppidgkoaaaBase
namespace Go.Proofs.Ytfcadppidgkoaaa.PFnExactRenameFree
open Go.RowKit Go.Proofs.YtfcadppidgkoaaaW.PrintWords Go.Proofs.YtfcadppidgkoaaaW.PrintLast Go.Proofs.YtfcadppidgkoaaaW.PrintMore
set_option linter.unusedVariables false
set_option linter.unusedSimpArgs false

theorem tmIn_l (s : List UInt8) (hs : s.length ≤ 100000000) (c : UInt8) (n : Nat) : ∀ (i k : Nat) (l : List UInt8), At s i l → l.length ≤ n → n < k → spec_tmIn.l0 k (B s) (vl c) i = some (l.contains c) := by
  induction n with
  | zero =>
    intro i k l h hl hk
    have : l = [] := List.length_eq_zero_iff.mp (by omega)
    subst this
    obtain ⟨k, rfl⟩ : ∃ m, k = m + 1 := ⟨k - 1, by omega⟩
    rw [spec_tmIn.l0, h.size, if_neg (by simp)]; rfl
  | succ n ih =>
    intro i k l h hl hk
    obtain ⟨k, rfl⟩ : ∃ m, k = m + 1 := ⟨k - 1, by omega⟩
    cases l with
    | nil => rw [spec_tmIn.l0, h.size, if_neg (by simp)]; rfl
    | cons d l =>
      have hz := h.size
      have hn := h.len
      simp only [List.length_cons] at hz hl hn
      have e := ih (i + 1) k l h.step (by omega) (by omega)
      have w : wrap64 ((i : Int) + 1) = (i + 1 : Nat) := by rw [wrap_id (by omega) (by omega)]; omega
      rw [spec_tmIn.l0, if_pos (by omega), if_pos (by omega), h.bt i 0 (by omega), at_cons_zero, w, e]
      by_cases hdc : d = c
      · subst hdc; simp
      · rw [if_neg (by rw [vl_inj]; exact hdc)]
        simp only [List.contains_cons]
        rw [show (c == d) = false from by simp; exact fun e => hdc e.symm]; rfl
theorem tmIn_f (s : List UInt8) (hs : s.length ≤ 100000000) (c : UInt8) (k : Nat) (hk : s.length < k) : spec_tmIn.f k (B s) (vl c) = some (s.contains c) :=
  tmIn_l s hs c s.length 0 k s (At.start s) (Nat.le_refl _) hk

end Go.Proofs.Ytfcadppidgkoaaa.PFnExactRenameFree
