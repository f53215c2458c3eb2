/- The walk of isKind: whether a text is one of the kinds. strings.Contains is off the shelf. -/
import Derived.Shelf.Strings.Search3
import Derived.Shelf.Lay
import Derived.Test.YtfcadppidgkoaaaChecked
import Derived.Test.YtfcadppidgkoaaaBase
import Derived.Lib.Hide
import Derived.WalkKit
import Derived.OwnWalk
import Derived.Outline
namespace Go.Proofs
open Go.Shelf Go.Lib
shelf_lay Lays.n144 Nm 144 at Try as Try.lays144
namespace Ytfcadppidgkoaaa
open Go.RowKit Go.Proofs.YtfcadppidgkoaaaW.PrintWords
set_option linter.unusedVariables false
set_option linter.unusedSimpArgs false
theorem has_calls (l : List UInt8) (c : UInt8) (w : World) : Calls Try.prog 105 #[.string (B l), .string (B [c])] w fun e w' => e = .returned (.bool (l.contains c)) ∧ w = w' := by
  refine (Any.strings_Contains_one Try.lays144 (B l) c w).mono ?_
  rintro e w' ⟨rfl, rfl⟩
  exact ⟨by rw [B_data, indexByte_has], rfl⟩
def kindsL : List UInt8 := [48, 33, 63, 126, 43, 38, 35, 61, 42]
/-- Whether a text is one of the kinds. -/
def kindB : List UInt8 → Bool | [c] => kindsL.contains c | _ => false
theorem kindB_len {l : List UInt8} (h : l.length ≠ 1) : kindB l = false := by
  match l, h with
  | [], _ => rfl
  | [_], h => exact absurd rfl h
  | _ :: _ :: _, _ => rfl
set_option maxHeartbeats 1000000 in
theorem isKind_calls (l : List UInt8) (w : World) (hl : l.length ≤ 140737488351232) : Calls Try.prog 60 #[.string (B l)] w fun e w' => e = .returned (.bool (kindB l)) ∧ w = w' := by
  have hz : (B l).size = l.length := B_size l
  by_cases h1 : l.length = 1
  · obtain ⟨c, rfl⟩ := List.length_eq_one_iff.mp h1
    have hh := has_calls kindsL c w
    rw [show B kindsL = ⟨#[48, 33, 63, 126, 43, 38, 35, 61, 42]⟩ from rfl] at hh
    clear h1
    have hz : (B [c]).size = 1 := B_size [c]
    go_enter Try.func60, Try.ntmps60
    go_wp2_with fail
    refine hh.mono ?_
    rintro e w' ⟨rfl, rfl⟩
    go_wp2_with fail
    go_ret
    exact ⟨by rw [show kindB [c] = decide (c ∈ kindsL) from by rw [Bool.eq_iff_iff]; simp [kindB]]; rfl, rfl⟩
  · have HO := Lib.hid (kindB_len h1)
    have e1 : ((l.length : Int) == 1) = false := by rw [beq_eq_false_iff_ne]; omega
    go_enter Try.func60, Try.ntmps60
    go_wp2_with fail
    go_ret
    exact ⟨by rw [HO.out]; rfl, rfl⟩
end Ytfcadppidgkoaaa
end Go.Proofs
