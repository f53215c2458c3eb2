/- strings.Join with nothing between, off the shelf. -/
import Derived.Shelf.Strings.OnBuilder
import Derived.Test.YtfcadppidgkoaaaChecked
import Derived.Test.YtfcadppidgkoaaaBase
import Derived.Lib.Hide
namespace Go.Proofs
open Go.Shelf Go.Lib
def Try.lays156_ren : Go.Shelf.Ren := ⟨fun | 156 => 108 | 165 => 133 | 166 => 134 | 169 => 135 | 240 => 146 | 241 => 147 | 276 => 151 | 277 => 152 | n => n, fun | 31 => 25 | 9 => 9 | 3 => 3 | 4 => 4 | 0 => 0 | 20 => 20 | 72 => 126 | 76 => 130 | 70 => 124 | 37 => 98 | 75 => 129 | 127 => 142 | 164 => 145 | 5 => 5 | 80 => 114 | n => n, fun | n => n⟩
theorem Try.lays156 : Go.Proofs.Lays.n156 Try.prog Try.lays156_ren := {
  mixed := by kernel_rfl
  f156 := Try.func108.trans (congrArg some (by kernel_rfl))
  f165 := Try.func133.trans (congrArg some (by kernel_rfl))
  f166 := Try.func134.trans (congrArg some (by kernel_rfl))
  f169 := Try.func135.trans (congrArg some (by kernel_rfl))
  f240 := Try.func146.trans (congrArg some (by kernel_rfl))
  f241 := Try.func147.trans (congrArg some (by kernel_rfl))
  f276 := Try.func151.trans (congrArg some (by kernel_rfl))
  f277 := Try.func152.trans (congrArg some (by kernel_rfl))
  t0 := Try.underlying0
  a0 := Try.isAgg0
  z0 := Try.sizeOf0
  v0 := Try.zeroValue0
  t3 := Try.underlying3
  a3 := Try.isAgg3
  z3 := Try.sizeOf3
  v3 := Try.zeroValue3
  t4 := Try.underlying4
  a4 := Try.isAgg4
  z4 := Try.sizeOf4
  v4 := Try.zeroValue4
  t9 := Try.underlying9
  a9 := Try.isAgg9
  z9 := Try.sizeOf9
  v9 := Try.zeroValue9
  t20 := Try.underlying20
  a20 := Try.isAgg20
  z20 := Try.sizeOf20
  v20 := Try.zeroValue20
  t31 := Try.underlying25
  a31 := Try.isAgg25
  z31 := Try.sizeOf25
  v31 := Try.zeroValue25
  t37 := Try.underlying98
  a37 := Try.isAgg98
  z37 := Try.sizeOf98
  v37 := Try.zeroValue98
  t70 := Try.underlying124
  a70 := Try.isAgg124
  z70 := Try.sizeOf124
  v70 := Try.zeroValue124
  t72 := Try.underlying126
  a72 := Try.isAgg126
  z72 := Try.sizeOf126
  v72 := Try.zeroValue126
  t75 := Try.underlying129
  a75 := Try.isAgg129
  z75 := Try.sizeOf129
  v75 := Try.zeroValue129
  t76 := Try.underlying130
  a76 := Try.isAgg130
  z76 := Try.sizeOf130
  v76 := Try.zeroValue130
  t127 := Try.underlying142
  a127 := Try.isAgg142
  z127 := Try.sizeOf142
  v127 := Try.zeroValue142
  t164 := Try.underlying145
  a164 := Try.isAgg145
  z164 := Try.sizeOf145
  v164 := Try.zeroValue145 }
theorem Try.joinExtra : Builder.Extra Try.prog Try.lays156_ren where
  sizeBuilder := by kernel_rfl
  liesBuilder := by kernel_rfl
  t5 := Try.underlying5
  a5 := Try.isAgg5
  z5 := Try.sizeOf5
  v5 := Try.zeroValue5
  infoByte := by kernel_rfl
  cellsByte := by kernel_rfl
  sizeByte := by kernel_rfl
  neB5 := by decide
namespace Ytfcadppidgkoaaa
open Go.RowKit Go.Proofs.YtfcadppidgkoaaaW.PrintWords
theorem join_nothing (xs : List (List UInt8)) : Lib.join xs [] = xs.flatten := by
  induction xs with
  | nil => rfl
  | cons x xs ih =>
    cases xs with
    | nil => simp [Lib.join]
    | cons y ys => simp [Lib.join, List.intercalate, List.intersperse] at ih ⊢; exact ih
/-- The texts of a slice of strings lie in a row. -/
def Texts (w : World) (bk : Nat) (xs : List (List UInt8)) : Prop := bk < w.heap.size ∧ ∀ (j : Nat) x, xs[j]? = some x → w.cell? ⟨bk, j, none⟩ = some (.string (B x))
theorem texts_new (w : World) (xs : List (List UInt8)) (e : TypeId) : Texts (w.alloc (.cells (xs.map fun x => .string (B x)).toArray e)) w.heap.size xs := by
  refine ⟨by simp, fun j x hj => ?_⟩
  rw [blk_cell (heap_alloc_new w _) j]
  simp [hj]
theorem join_calls (bk c : Nat) (xs : List (List UInt8)) (w : World) (h : Texts w bk xs) (hn : xs.length ≤ 1000) (hc : xs.length ≤ c) (hl : xs.flatten.length ≤ 1000000) :
    Calls Try.prog 108 #[.slice (some ⟨bk, 0, none⟩) xs.length c, .string ⟨#[]⟩] w fun e w' => e = .returned (.string (B xs.flatten)) ∧ Below w.heap.size w w' := by
  have hm : ((xs.map B).map (·.data.toList)) = xs := by simp [List.map_map, Function.comp_def, B_data]
  have := Any.strings_Join Try.lays156 Try.joinExtra bk 0 c (xs.map B) ⟨#[]⟩ w (fun j x hj => by
    rw [List.getElem?_map] at hj
    obtain ⟨y, hy, rfl⟩ := Option.map_eq_some_iff.mp hj
    rw [Nat.zero_add]
    exact h.2 j y hy) h.1 (by simp; omega) (by simpa using hc) (by rw [hm, show (⟨#[]⟩ : ByteArray).data.toList = [] from rfl, join_nothing]; omega)
  rw [hm, show (⟨#[]⟩ : ByteArray).data.toList = [] from rfl, join_nothing, List.length_map] at this
  exact this
end Ytfcadppidgkoaaa
end Go.Proofs
