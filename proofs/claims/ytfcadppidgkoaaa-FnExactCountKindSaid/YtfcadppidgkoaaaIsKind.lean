/- The walk of isKind: whether a text is one of the kinds. strings.Contains is off the shelf. -/
import Derived.Shelf.Strings.Search3
import Derived.Test.YtfcadppidgkoaaaChecked
import Derived.Test.YtfcadppidgkoaaaBase
import Derived.Lib.Hide
import Derived.WalkKit
import Derived.OwnWalk
import Derived.Outline
namespace Go.Proofs
open Go.Shelf Go.Lib
def Try.lays144_ren : Go.Shelf.Ren := ⟨fun | 144 => 105 | 143 => 132 | 219 => 145 | 217 => 114 | 225 => 148 | 224 => 149 | 267 => 150 | 266 => 139 | 314 => 153 | n => n, fun | 9 => 9 | 4 => 4 | 3 => 3 | 5 => 5 | 46 => 144 | 146 => 148 | 51 => 53 | n => n, fun | 1 => 0 | n => n⟩
theorem Try.lays144 : Go.Proofs.Lays.n144 Try.prog Try.lays144_ren := {
  mixed := by kernel_rfl
  f143 := Try.func132.trans (congrArg some (by kernel_rfl))
  f144 := Try.func105.trans (congrArg some (by kernel_rfl))
  f217 := Try.func114.trans (congrArg some (by kernel_rfl))
  f219 := Try.func145.trans (congrArg some (by kernel_rfl))
  f224 := Try.func149.trans (congrArg some (by kernel_rfl))
  f225 := Try.func148.trans (congrArg some (by kernel_rfl))
  f266 := Try.func139.trans (congrArg some (by kernel_rfl))
  f267 := Try.func150.trans (congrArg some (by kernel_rfl))
  f314 := Try.func153.trans (congrArg some (by kernel_rfl))
  t3 := Try.underlying3
  a3 := Try.isAgg3
  z3 := Try.sizeOf3
  v3 := Try.zeroValue3
  t4 := Try.underlying4
  a4 := Try.isAgg4
  z4 := Try.sizeOf4
  v4 := Try.zeroValue4
  t5 := Try.underlying5
  a5 := Try.isAgg5
  z5 := Try.sizeOf5
  v5 := Try.zeroValue5
  t9 := Try.underlying9
  a9 := Try.isAgg9
  z9 := Try.sizeOf9
  v9 := Try.zeroValue9
  t46 := Try.underlying144
  a46 := Try.isAgg144
  z46 := Try.sizeOf144
  v46 := Try.zeroValue144
  t51 := Try.underlying53
  a51 := Try.isAgg53
  z51 := Try.sizeOf53
  v51 := Try.zeroValue53
  t146 := Try.underlying148
  a146 := Try.isAgg148
  z146 := Try.sizeOf148
  v146 := Try.zeroValue148
  g1 := by kernel_rfl }
namespace Ytfcadppidgkoaaa
open Go.RowKit Go.Proofs.YtfcadppidgkoaaaW.PrintWords
set_option linter.unusedVariables false
set_option linter.unusedSimpArgs false
theorem has_calls (l : List UInt8) (c : UInt8) (w : World) : Calls Try.prog 105 #[.string (B l), .string (B [c])] w fun e w' => e = .returned (.bool (l.contains c)) ∧ w = w' := by
  refine (Any.strings_Contains_one Try.lays144 (B l) c w).mono ?_
  rintro e w' ⟨rfl, rfl⟩
  exact ⟨by rw [B_data, indexByte_has], rfl⟩
def kindsL : List UInt8 := [48, 33, 63, 126, 43, 38, 35, 61, 42]
/-- Whether a text is one of the kinds. -/
def kindB : List UInt8 → Bool | [c] => kindsL.contains c | _ => false
theorem kindB_len {l : List UInt8} (h : l.length ≠ 1) : kindB l = false := by
  match l, h with
  | [], _ => rfl
  | [_], h => exact absurd rfl h
  | _ :: _ :: _, _ => rfl
set_option maxHeartbeats 1000000 in
theorem isKind_calls (l : List UInt8) (w : World) (hl : l.length ≤ 140737488351232) : Calls Try.prog 60 #[.string (B l)] w fun e w' => e = .returned (.bool (kindB l)) ∧ w = w' := by
  have hz : (B l).size = l.length := B_size l
  by_cases h1 : l.length = 1
  · obtain ⟨c, rfl⟩ := List.length_eq_one_iff.mp h1
    have hh := has_calls kindsL c w
    rw [show B kindsL = ⟨#[48, 33, 63, 126, 43, 38, 35, 61, 42]⟩ from rfl] at hh
    clear h1
    have hz : (B [c]).size = 1 := B_size [c]
    go_enter Try.func60, Try.ntmps60
    go_wp2_with fail
    refine hh.mono ?_
    rintro e w' ⟨rfl, rfl⟩
    go_wp2_with fail
    go_ret
    exact ⟨by rw [show kindB [c] = decide (c ∈ kindsL) from by rw [Bool.eq_iff_iff]; simp [kindB]]; rfl, rfl⟩
  · have HO := Lib.hid (kindB_len h1)
    have e1 : ((l.length : Int) == 1) = false := by rw [beq_eq_false_iff_ne]; omega
    go_enter Try.func60, Try.ntmps60
    go_wp2_with fail
    go_ret
    exact ⟨by rw [HO.out]; rfl, rfl⟩
end Ytfcadppidgkoaaa
end Go.Proofs
