/- A text that holds a byte beyond the letters is no process. -/
import Derived.Test.YtfcadppidgkoaaaRefsChoiceOf
namespace Go.Proofs.Ytfcadppidgkoaaa.PChoiceOf
open Go.RowKit Go.Proofs.YtfcadppidgkoaaaW.PrintWords
theorem not_read {l : List UInt8} {c : UInt8} (hc : c ∈ l) (hv : 128 ≤ vl c) : readOk l = false := by
  cases h : readOk l with
  | false => rfl
  | true =>
    obtain ⟨h1, h2, h3, h4⟩ := read_good h
    have hs := text_small h3
    rw [← h2, List.all_eq_true] at hs
    have := hs c hc
    simp [smallB] at this
    omega
end Go.Proofs.Ytfcadppidgkoaaa.PChoiceOf
