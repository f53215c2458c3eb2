/- The walk of setOf: the names of a text as a set. -/
import Derived.Test.YtfcadppidgkoaaaBit
import Derived.Test.YtfcadppidgkoaaaBase
namespace Go.Proofs.Ytfcadppidgkoaaa
open Go.RowKit Go.Proofs.YtfcadppidgkoaaaW.PrintWords Go.Proofs.YtfcadppidgkoaaaW.PrintMore
set_option linter.unusedVariables false
set_option linter.unusedSimpArgs false

set_option maxHeartbeats 1000000 in
theorem setOf_calls (l : List UInt8) (w : World) (hl : l.length ≤ 140737488351232) (hall : ∀ c, c ∈ l → isLet c = true) : Calls Try.prog 107 #[.string (B l)] w fun e w' => e = .returned (.int .u32 (setI (inS l))) ∧ w = w' := by
  have hz : (B l).size = l.length := B_size l
  have HALL := Lib.hid hall
  clear hall
  go_enter Try.func107, Try.ntmps107
  go_wp2_with fail
  go_loop [3, 7] (fun a c => ∃ i : Nat, i ≤ l.length ∧ c = .int .i64 i ∧ a = .int .u32 (setI (inS (l.take i)))) (fun _ c => l.length - (intOf c).toNat)
  case atStart => exact ⟨0, by omega, rfl, by rw [List.take_zero, show inS [] = noS from rfl, setI_empty]⟩
  case round =>
    obtain ⟨i, hi, rfl, rfl⟩ := hrel
    by_cases hlt : i < l.length
    · have hc := byte_of l i hlt
      have HL := Lib.hid (HALL.out l[i] (List.getElem_mem hlt))
      have HO := Lib.hid (set_or (inS (l.take i)) (eqS l[i]))
      have HN : Hid (setI (inS (l.take (i + 1))) = setI (orS (inS (l.take i)) (eqS l[i]))) := by
        show _ = _
        apply setI_congr
        intro d _
        unfold inS orS eqS
        rw [List.take_succ_eq_append_getElem hlt, List.contains_append]
        congr 1
        rw [Bool.eq_iff_iff]; simp
      go_wp2_with fail
      refine (bit_calls HL.out _).mono ?_
      rintro e w' ⟨rfl, rfl⟩
      go_wp2_with fail
      go_round
      case rel => exact ⟨i + 1, by omega, by go_num, by rw [HN.out, ← HO.out]⟩
      case measure => simp [intOf]; omega
    · have HA : Hid (setI (inS (l.take i)) = setI (inS l)) := by
        show _ = _
        rw [show i = l.length from by omega, List.take_length]
      go_wp2_with fail
      go_ret
      exact ⟨by rw [← HA.out]; rfl, rfl⟩

end Go.Proofs.Ytfcadppidgkoaaa
