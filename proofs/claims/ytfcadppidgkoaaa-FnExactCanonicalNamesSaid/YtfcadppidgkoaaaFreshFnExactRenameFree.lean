/- The reference's first name that is not in a text. -/
import Derived.Test.YtfcadppidgkoaaaInFnExactRenameFree
import Derived.Test.YtfcadppidgkoaaaFreeW
import Derived.Test.YtfcadppidgkoaaaBase
namespace Go.Proofs.Ytfcadppidgkoaaa.PFnExactRenameFree
open Go.RowKit Go.Proofs.YtfcadppidgkoaaaW.PrintWords Go.Proofs.YtfcadppidgkoaaaW.PrintLast Go.Proofs.YtfcadppidgkoaaaW.PrintMore
set_option linter.unusedVariables false
set_option linter.unusedSimpArgs false

theorem tmFresh_l1 (s : List UInt8) (hs : s.length ≤ 100000000) (j : Nat) : ∀ (i k : Nat), i + j = 63 → s.length + j < k → spec_tmFresh.l1 k (B s) (128 + i) = some (vl (((beyFrom i).find? fun c => !s.contains c).getD 191)) := by
  induction j with
  | zero =>
    intro i k hi hk
    obtain rfl : i = 63 := by omega
    obtain ⟨k, rfl⟩ : ∃ m, k = m + 1 := ⟨k - 1, by omega⟩
    rw [spec_tmFresh.l1, if_neg (by omega), beyFrom_end]; rfl
  | succ j ih =>
    intro i k hi hk
    obtain ⟨k, rfl⟩ : ∃ m, k = m + 1 := ⟨k - 1, by omega⟩
    have hn : (128 + (i : Int) + 1) % 256 = 128 + ((i + 1 : Nat) : Int) := by omega
    have hin := tmIn_f s hs (UInt8.ofNat (128 + i)) k (by omega)
    rw [bey_vl (by omega)] at hin
    rw [spec_tmFresh.l1, if_pos (by omega), hin, Option.bind_some, hn, ih (i + 1) k (by omega) (by omega), beyFrom_step (i := i) (by omega), List.find?_cons]
    by_cases hp : s.contains (UInt8.ofNat (128 + i)) = true
    · rw [if_pos hp, hp]; rfl
    · have hp' : s.contains (UInt8.ofNat (128 + i)) = false := by simpa using hp
      rw [if_neg hp, hp']
      show some (128 + (i : Int)) = some (vl (UInt8.ofNat (128 + i)))
      rw [bey_vl (by omega)]
theorem tmFresh_l0 (s : List UInt8) (hs : s.length ≤ 100000000) (j : Nat) : ∀ (i k : Nat), i + j = 26 → s.length + j + 70 < k → spec_tmFresh.l0 k (B s) (97 + i) = some (vl (match (letsFrom i).find? (fun c => !s.contains c) with
    | some c => c
    | none => ((beyFrom 0).find? fun c => !s.contains c).getD 191)) := by
  induction j with
  | zero =>
    intro i k hi hk
    obtain ⟨k, rfl⟩ : ∃ m, k = m + 1 := ⟨k - 1, by omega⟩
    rw [spec_tmFresh.l0, if_neg (by omega), letsFrom_end (by omega)]
    exact tmFresh_l1 s hs 63 0 k rfl (by omega)
  | succ j ih =>
    intro i k hi hk
    obtain ⟨k, rfl⟩ : ∃ m, k = m + 1 := ⟨k - 1, by omega⟩
    have hn : (97 + (i : Int) + 1) % 256 = 97 + ((i + 1 : Nat) : Int) := by omega
    have hin := tmIn_f s hs (letAt i) k (by omega)
    rw [letAt_vl (by omega)] at hin
    rw [spec_tmFresh.l0, if_pos (by omega), hin, Option.bind_some, hn, ih (i + 1) k (by omega) (by omega), letsFrom_step (i := i) (by omega), List.find?_cons]
    by_cases hp : s.contains (letAt i) = true
    · rw [if_pos hp, hp]; rfl
    · have hp' : s.contains (letAt i) = false := by simpa using hp
      rw [if_neg hp, hp']
      show some (97 + (i : Int)) = some (vl (letAt i))
      rw [letAt_vl (by omega)]
theorem tmFresh_f (s : List UInt8) (k : Nat) (hs : s.length ≤ 100000000) (hk : s.length + 100 ≤ k) : spec_tmFresh.f k (B s) = some (vl (freshB (inS s))) :=
  tmFresh_l0 s hs 26 0 k rfl (by omega)

end Go.Proofs.Ytfcadppidgkoaaa.PFnExactRenameFree
