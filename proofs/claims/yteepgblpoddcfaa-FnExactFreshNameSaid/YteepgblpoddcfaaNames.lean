/- The walks of areNames and setOf: texts of names. -/
import Derived.Test.YteepgblpoddcfaaBit
namespace Go.Proofs.Yteepgblpoddcfaa
open Go.RowKit Go.Proofs.YteepgblpoddcfaaW.PrintWords Go.Proofs.YteepgblpoddcfaaW.PrintMore
set_option linter.unusedVariables false
set_option linter.unusedSimpArgs false

theorem byte_of (l : List UInt8) (i : Nat) (h : i < l.length) : ∀ hh : i < (B l).size, (((B l)[i]'hh).toNat : Int) = vl l[i] := by
  intro hh; rfl

set_option maxHeartbeats 1000000 in
theorem areNames_calls (l : List UInt8) (w : World) (hl : l.length ≤ 140737488351232) : Calls Try.prog 40 #[.string (B l)] w fun e w' => e = .returned (.bool (l.all isLet)) ∧ w = w' := by
  have hz : (B l).size = l.length := B_size l
  go_enter Try.func40, Try.ntmps40
  go_wp2_with fail
  go_loop [6] (fun c => ∃ i : Nat, i ≤ l.length ∧ c = .int .i64 i ∧ (l.take i).all isLet = true) (fun c => l.length - (intOf c).toNat)
  case atStart => exact ⟨0, by omega, rfl, rfl⟩
  case round =>
    obtain ⟨i, hi, rfl, hf⟩ := hrel
    have HF := Lib.hid hf
    clear hf
    by_cases hlt : i < l.length
    · have hc := byte_of l i hlt
      go_wp2_with fail
      refine (isLetter_calls _ _).mono ?_
      rintro e w' ⟨rfl, rfl⟩
      rcases hlet : isLet l[i] with _ | _
      · have HA : Hid (l.all isLet = false) := by
          show _ = _
          rw [List.all_eq_false]
          exact ⟨l[i], List.getElem_mem hlt, by rw [hlet]; decide⟩
        clear hlet hc
        go_wp2_with fail
        go_ret
        exact ⟨by rw [HA.out]; rfl, rfl⟩
      · have HA : Hid ((l.take (i + 1)).all isLet = true) := by
          show _ = _
          rw [List.take_succ_eq_append_getElem hlt, List.all_append, HF.out]
          simp [hlet]
        clear hlet hc
        go_wp2_with fail
        go_round
        case rel => exact ⟨i + 1, by omega, by go_num, HA.out⟩
        case measure => simp [intOf]; omega
    · have HA : Hid (l.all isLet = true) := by
        show _ = _
        have h := HF.out
        rw [show i = l.length from by omega, List.take_length] at h; exact h
      go_wp2_with fail
      go_ret
      exact ⟨by rw [HA.out]; rfl, rfl⟩

set_option maxHeartbeats 1000000 in
theorem setOf_calls (l : List UInt8) (w : World) (hl : l.length ≤ 140737488351232) (hall : ∀ c, c ∈ l → isLet c = true) : Calls Try.prog 42 #[.string (B l)] w fun e w' => e = .returned (.int .u32 (setI (inS l))) ∧ w = w' := by
  have hz : (B l).size = l.length := B_size l
  have HALL := Lib.hid hall
  clear hall
  go_enter Try.func42, Try.ntmps42
  go_wp2_with fail
  go_loop [3, 7] (fun a c => ∃ i : Nat, i ≤ l.length ∧ c = .int .i64 i ∧ a = .int .u32 (setI (inS (l.take i)))) (fun _ c => l.length - (intOf c).toNat)
  case atStart => exact ⟨0, by omega, rfl, by rw [List.take_zero, show inS [] = noS from rfl, setI_empty]⟩
  case round =>
    obtain ⟨i, hi, rfl, rfl⟩ := hrel
    by_cases hlt : i < l.length
    · have hc := byte_of l i hlt
      have HL := Lib.hid (HALL.out l[i] (List.getElem_mem hlt))
      have HO := Lib.hid (set_or (inS (l.take i)) (eqS l[i]))
      have HN : Hid (setI (inS (l.take (i + 1))) = setI (orS (inS (l.take i)) (eqS l[i]))) := by
        show _ = _
        apply setI_congr
        intro d _
        unfold inS orS eqS
        rw [List.take_succ_eq_append_getElem hlt, List.contains_append]
        congr 1
        rw [Bool.eq_iff_iff]; simp
      go_wp2_with fail
      refine (bit_calls HL.out _).mono ?_
      rintro e w' ⟨rfl, rfl⟩
      go_wp2_with fail
      go_round
      case rel => exact ⟨i + 1, by omega, by go_num, by rw [HN.out, ← HO.out]⟩
      case measure => simp [intOf]; omega
    · have HA : Hid (setI (inS (l.take i)) = setI (inS l)) := by
        show _ = _
        rw [show i = l.length from by omega, List.take_length]
      go_wp2_with fail
      go_ret
      exact ⟨by rw [← HA.out]; rfl, rfl⟩

end Go.Proofs.Yteepgblpoddcfaa
