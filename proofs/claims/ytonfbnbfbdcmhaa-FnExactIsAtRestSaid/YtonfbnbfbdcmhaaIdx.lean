/- strings.IndexByte, off the shelf. -/
import Derived.Shelf.Small.Strs
import Derived.Test.YtonfbnbfbdcmhaaChecked
import Derived.Test.YtonfbnbfbdcmhaaBase
namespace Go.Proofs
open Go.Shelf Go.Lib
def Try.lays137_ren : Go.Shelf.Ren := ⟨fun | 137 => 69 | 217 => 106 | 266 => 128 | n => n, fun | 9 => 9 | 5 => 5 | 3 => 3 | n => n, fun | n => n⟩
theorem Try.lays137 : Go.Proofs.Lays.n137 Try.prog Try.lays137_ren := {
  mixed := by kernel_rfl
  f137 := Try.func69.trans (congrArg some (by kernel_rfl))
  f217 := Try.func106.trans (congrArg some (by kernel_rfl))
  f266 := Try.func128.trans (congrArg some (by kernel_rfl))
  t3 := Try.underlying3
  a3 := Try.isAgg3
  z3 := Try.sizeOf3
  v3 := Try.zeroValue3
  t5 := Try.underlying5
  a5 := Try.isAgg5
  z5 := Try.sizeOf5
  v5 := Try.zeroValue5
  t9 := Try.underlying9
  a9 := Try.isAgg9
  z9 := Try.sizeOf9
  v9 := Try.zeroValue9 }
namespace Ytonfbnbfbdcmhaa
open Go.RowKit Go.Proofs.YtonfbnbfbdcmhaaW.PrintWords
theorem idx_calls (l : List UInt8) (c : UInt8) (w : World) : Calls Try.prog 69 #[.string (B l), .int .u8 (vl c)] w fun e w' => e = .returned (.int .i64 (Lib.indexByte l c)) ∧ w = w' := by
  refine (Any.strings_IndexByte Try.lays137 (B l) (vl c) w).mono ?_
  rintro e w' ⟨rfl, rfl⟩
  exact ⟨by rw [B_data]; simp [vl], rfl⟩
end Ytonfbnbfbdcmhaa
end Go.Proofs
