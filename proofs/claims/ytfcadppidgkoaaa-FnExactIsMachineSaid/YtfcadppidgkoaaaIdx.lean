/- strings.IndexByte, off the shelf. -/
import Derived.Shelf.Small.Strs
import Derived.Shelf.Lay
import Derived.Test.YtfcadppidgkoaaaChecked
import Derived.Test.YtfcadppidgkoaaaBase
namespace Go.Proofs
open Go.Shelf Go.Lib
shelf_lay Lays.n137 Nm 137 at Try as Try.lays137
namespace Ytfcadppidgkoaaa
open Go.RowKit Go.Proofs.YtfcadppidgkoaaaW.PrintWords
theorem idx_calls (l : List UInt8) (c : UInt8) (w : World) : Calls Try.prog 79 #[.string (B l), .int .u8 (vl c)] w fun e w' => e = .returned (.int .i64 (Lib.indexByte l c)) ∧ w = w' := by
  refine (Any.strings_IndexByte Try.lays137 (B l) (vl c) w).mono ?_
  rintro e w' ⟨rfl, rfl⟩
  exact ⟨by rw [B_data]; simp [vl], rfl⟩
end Ytfcadppidgkoaaa
end Go.Proofs
