/- The reference's one name, and its text if it is a process. -/
import Derived.Test.YtfcadppidgkoaaaRefsFnExactRenameFree
import Derived.Test.YtfcadppidgkoaaaWithF2
namespace Go.Proofs.Ytfcadppidgkoaaa.PFnExactRenameFree
open Go.RowKit Go.Proofs.YtfcadppidgkoaaaW.PrintWords Go.Proofs.YtfcadppidgkoaaaW.PrintLast Go.Proofs.YtfcadppidgkoaaaW.PrintMore
set_option linter.unusedVariables false
set_option linter.unusedSimpArgs false

theorem one_f (l : List UInt8) : spec_tmOne.f (B l) = some (oneB l) := by
  match l with
  | [] => simp [spec_tmOne.f, B_size, oneB]
  | [c] =>
    simp only [spec_tmOne.f, B_size, bt_B]
    rw [if_pos (by rfl), if_pos (by simp)]
    show (if vl c ≥ 97 then some (decide (vl c ≤ 122)) else some false) = some (isLet c)
    unfold isLet
    by_cases h : vl c ≥ 97 <;> simp [h]
  | a :: b :: l =>
    simp only [spec_tmOne.f, B_size, List.length_cons]
    rw [if_neg (by omega)]; rfl
theorem if_f (l : List UInt8) (k : Nat) (hk : 3000 ≤ k) : spec_tmIf.f k (B l) = some (if readOk l = true then (B l, true) else (B [], false)) := by
  rw [spec_tmIf.f, good_f l k hk, Option.bind_some]
  split <;> rfl

end Go.Proofs.Ytfcadppidgkoaaa.PFnExactRenameFree
