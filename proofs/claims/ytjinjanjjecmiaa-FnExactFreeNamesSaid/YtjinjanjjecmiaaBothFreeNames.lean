/- The reference's letters of two texts. -/
import Derived.Test.YtjinjanjjecmiaaAddFreeNames
namespace Go.Proofs.Ytjinjanjjecmiaa.PFreeNames
open Go.RowKit Go.Proofs.YtjinjanjjecmiaaW.PrintWords Go.Proofs.YtjinjanjjecmiaaW.PrintLast Go.Proofs.YtjinjanjjecmiaaW.PrintMore
set_option linter.unusedVariables false
set_option linter.unusedSimpArgs false

theorem both_l (t : List UInt8) (ht : t.length ≤ 1000000) (n : Nat) : ∀ (s : List UInt8) (i k : Nat) (l : List UInt8), At t i l → l.length ≤ n → s.length + n ≤ 10000000 → s.length + 2 * n + 2 ≤ k → spec_tmBoth.l0 k (B s) (B t) i = some (B (bothL s l)) := by
  induction n with
  | zero =>
    intro s i k l h hl hs hk
    have : l = [] := List.length_eq_zero_iff.mp (by omega)
    subst this
    obtain ⟨k, rfl⟩ : ∃ m, k = m + 1 := ⟨k - 1, by omega⟩
    rw [spec_tmBoth.l0, h.size, if_neg (by simp)]; rfl
  | succ n ih =>
    intro s i k l h hl hs hk
    obtain ⟨k, rfl⟩ : ∃ m, k = m + 1 := ⟨k - 1, by omega⟩
    cases l with
    | nil => rw [spec_tmBoth.l0, h.size, if_neg (by simp)]; rfl
    | cons d l =>
      have hz := h.size
      have hn := h.len
      simp only [List.length_cons] at hz hl hn
      have w : wrap64 ((i : Int) + 1) = (i + 1 : Nat) := by rw [wrap_id (by omega) (by omega)]; omega
      have hi := insL_len d s
      rw [spec_tmBoth.l0, if_pos (by omega), if_pos (by omega), h.bt i 0 (by omega), at_cons_zero, w, add_f s (by omega) d k (by omega), Option.bind_some]
      exact ih _ _ _ _ h.step (by omega) (by omega) (by omega)
theorem both_f (s t : List UInt8) (hs : s.length ≤ 1000000) (ht : t.length ≤ 1000000) (k : Nat) (hk : s.length + 2 * t.length + 2 ≤ k) : spec_tmBoth.f k (B s) (B t) = some (B (bothL s t)) :=
  both_l t ht t.length s 0 k t (At.start t) (Nat.le_refl _) (by omega) hk

end Go.Proofs.Ytjinjanjjecmiaa.PFreeNames
