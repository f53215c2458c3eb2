/- strings.Join with nothing between, off the shelf. -/
import Derived.Shelf.Strings.OnBuilder
import Derived.Shelf.Lay
import Derived.Test.YtfcadppidgkoaaaChecked
import Derived.Test.YtfcadppidgkoaaaBase
import Derived.Lib.Hide
namespace Go.Proofs
open Go.Shelf Go.Lib
shelf_lay Lays.n156 Nm 156 at Try as Try.lays156
theorem Try.joinExtra : Builder.Extra Try.prog Try.lays156_ren where
  sizeBuilder := by kernel_rfl
  liesBuilder := by kernel_rfl
  t5 := Try.underlying5
  a5 := Try.isAgg5
  z5 := Try.sizeOf5
  v5 := Try.zeroValue5
  infoByte := by kernel_rfl
  cellsByte := by kernel_rfl
  sizeByte := by kernel_rfl
  neB5 := by decide
namespace Ytfcadppidgkoaaa
open Go.RowKit Go.Proofs.YtfcadppidgkoaaaW.PrintWords
theorem join_nothing (xs : List (List UInt8)) : Lib.join xs [] = xs.flatten := by
  induction xs with
  | nil => rfl
  | cons x xs ih =>
    cases xs with
    | nil => simp [Lib.join]
    | cons y ys => simp [Lib.join, List.intercalate, List.intersperse] at ih ⊢; exact ih
/-- The texts of a slice of strings lie in a row. -/
def Texts (w : World) (bk : Nat) (xs : List (List UInt8)) : Prop := bk < w.heap.size ∧ ∀ (j : Nat) x, xs[j]? = some x → w.cell? ⟨bk, j, none⟩ = some (.string (B x))
theorem texts_new (w : World) (xs : List (List UInt8)) (e : TypeId) : Texts (w.alloc (.cells (xs.map fun x => .string (B x)).toArray e)) w.heap.size xs := by
  refine ⟨by simp, fun j x hj => ?_⟩
  rw [blk_cell (heap_alloc_new w _) j]
  simp [hj]
theorem join_calls (bk c : Nat) (xs : List (List UInt8)) (w : World) (h : Texts w bk xs) (hn : xs.length ≤ 1000) (hc : xs.length ≤ c) (hl : xs.flatten.length ≤ 1000000) :
    Calls Try.prog 108 #[.slice (some ⟨bk, 0, none⟩) xs.length c, .string ⟨#[]⟩] w fun e w' => e = .returned (.string (B xs.flatten)) ∧ Below w.heap.size w w' := by
  have hm : ((xs.map B).map (·.data.toList)) = xs := by simp [List.map_map, Function.comp_def, B_data]
  have := Any.strings_Join Try.lays156 Try.joinExtra bk 0 c (xs.map B) ⟨#[]⟩ w (fun j x hj => by
    rw [List.getElem?_map] at hj
    obtain ⟨y, hy, rfl⟩ := Option.map_eq_some_iff.mp hj
    rw [Nat.zero_add]
    exact h.2 j y hy) h.1 (by simp; omega) (by simpa using hc) (by rw [hm, show (⟨#[]⟩ : ByteArray).data.toList = [] from rfl, join_nothing]; omega)
  rw [hm, show (⟨#[]⟩ : ByteArray).data.toList = [] from rfl, join_nothing, List.length_map] at this
  exact this
end Ytfcadppidgkoaaa
end Go.Proofs
