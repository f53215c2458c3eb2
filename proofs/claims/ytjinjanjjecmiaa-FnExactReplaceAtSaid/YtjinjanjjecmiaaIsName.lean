/- The walk of isName: whether a text is one name. -/
import Derived.Test.YtjinjanjjecmiaaBit
import Derived.Test.YtjinjanjjecmiaaBase
namespace Go.Proofs.Ytjinjanjjecmiaa
open Go.RowKit Go.Proofs.YtjinjanjjecmiaaW.PrintWords Go.Proofs.YtjinjanjjecmiaaW.PrintMore
set_option linter.unusedVariables false
set_option linter.unusedSimpArgs false

/-- Whether a text is one name. -/
def oneB : List UInt8 → Bool | [c] => isLet c | _ => false
theorem oneB_len {l : List UInt8} (h : l.length ≠ 1) : oneB l = false := by
  match l, h with
  | [], _ => rfl
  | [_], h => exact absurd rfl h
  | _ :: _ :: _, _ => rfl
theorem oneB_iff {l : List UInt8} : oneB l = true ↔ ∃ c, l = [c] ∧ isLet c = true := by
  match l with
  | [] => simp [oneB]
  | [c] => simp [oneB]
  | _ :: _ :: _ => simp [oneB]

set_option maxHeartbeats 1000000 in
theorem isName_calls (l : List UInt8) (w : World) (hl : l.length ≤ 140737488351232) : Calls Try.prog 45 #[.string (B l)] w fun e w' => e = .returned (.bool (oneB l)) ∧ w = w' := by
  have hz : (B l).size = l.length := B_size l
  by_cases h1 : l.length = 1
  · obtain ⟨c, rfl⟩ := List.length_eq_one_iff.mp h1
    have hc := byte_of [c] 0 (by simp)
    clear h1
    have hz : (B [c]).size = 1 := B_size [c]
    go_enter Try.func45, Try.ntmps45
    go_wp2_with fail
    refine (isLetter_calls c _).mono ?_
    rintro e w' ⟨rfl, rfl⟩
    go_wp2_with fail
    go_ret
    exact ⟨rfl, rfl⟩
  · have HO := Lib.hid (oneB_len h1)
    have e1 : ((l.length : Int) == 1) = false := by rw [beq_eq_false_iff_ne]; omega
    go_enter Try.func45, Try.ntmps45
    go_wp2_with fail
    go_ret
    exact ⟨by rw [HO.out]; rfl, rfl⟩

end Go.Proofs.Ytjinjanjjecmiaa
