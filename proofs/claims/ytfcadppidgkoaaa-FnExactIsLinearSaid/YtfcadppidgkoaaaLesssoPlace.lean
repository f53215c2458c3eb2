/- The reference's text without a letter. -/
import Derived.Test.YtfcadppidgkoaaaPsoPlacex
import Derived.Test.YtfcadppidgkoaaaBase
namespace Go.Proofs.Ytfcadppidgkoaaa.PsoPlace
open Go.RowKit Go.Proofs.YtfcadppidgkoaaaW.PrintWords Go.Proofs.YtfcadppidgkoaaaW.PrintLast Go.Proofs.YtfcadppidgkoaaaW.PrintMore
set_option linter.unusedVariables false
set_option linter.unusedSimpArgs false

theorem less_l (s : List UInt8) (hs : s.length ≤ 1000000) (c : UInt8) (n : Nat) : ∀ (out : List UInt8) (i k : Nat) (l : List UInt8), At s i l → l.length ≤ n → out.length ≤ i → n < k → spec_tmLess.l0 k (B s) (vl c) (B out) i = some (B (out ++ l.filter fun d => d != c)) := by
  induction n with
  | zero =>
    intro out i k l h hl ho hk
    have : l = [] := List.length_eq_zero_iff.mp (by omega)
    subst this
    obtain ⟨k, rfl⟩ : ∃ m, k = m + 1 := ⟨k - 1, by omega⟩
    rw [spec_tmLess.l0, h.size, if_neg (by simp)]; simp
  | succ n ih =>
    intro out i k l h hl ho hk
    obtain ⟨k, rfl⟩ : ∃ m, k = m + 1 := ⟨k - 1, by omega⟩
    cases l with
    | nil => rw [spec_tmLess.l0, h.size, if_neg (by simp)]; simp
    | cons d l =>
      have hz := h.size
      have hn := h.len
      simp only [List.length_cons] at hz hl hn
      have w : wrap64 ((i : Int) + 1) = (i + 1 : Nat) := by rw [wrap_id (by omega) (by omega)]; omega
      have hx : (B s).extract (i : Int).toNat ((i + 1 : Nat) : Int).toNat = B [d] := by
        obtain ⟨pre, rfl, rfl⟩ := h
        rw [B_extract, show ((pre.length : Int)).toNat = pre.length from rfl, show (((pre.length + 1 : Nat) : Int)).toNat = pre.length + 1 from rfl, List.take_append, List.drop_append, List.drop_eq_nil_of_le (by simp), List.nil_append]
        simp
      rw [spec_tmLess.l0, if_pos (by omega), if_pos (by omega), h.bt i 0 (by omega), at_cons_zero, w, hx]
      by_cases hc : d = c
      · subst hc
        rw [if_pos rfl, ih out (i + 1) k l h.step (by omega) (by omega) (by omega)]
        simp
      · rw [if_neg (by rw [vl_inj]; exact hc), if_pos (by omega), if_pos (by omega), if_pos (by rw [B_size, B_size]; simp; omega), B_append, ih (out ++ [d]) (i + 1) k l h.step (by omega) (by simp; omega) (by omega)]
        simp [hc]
theorem less_f (s : List UInt8) (hs : s.length ≤ 1000000) (c : UInt8) (k : Nat) (hk : s.length < k) : spec_tmLess.f k (B s) (vl c) = some (B (s.filter fun d => d != c)) := by
  have := less_l s hs c s.length [] 0 k s (At.start s) (Nat.le_refl _) (Nat.le_refl _) hk
  rw [List.nil_append] at this
  exact this

end Go.Proofs.Ytfcadppidgkoaaa.PsoPlace
