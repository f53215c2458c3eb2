/- The walk of fresh: the first name that is not in a set. -/
import Derived.Test.YtfcadppidgkoaaaBit
namespace Go.Proofs.Ytfcadppidgkoaaa
open Go.RowKit Go.Proofs.YtfcadppidgkoaaaW.PrintWords Go.Proofs.YtfcadppidgkoaaaW.PrintMore
set_option linter.unusedVariables false
set_option linter.unusedSimpArgs false

def freshInt : Option UInt8 → Int | some c => vl c | none => 0
set_option maxHeartbeats 1000000 in
theorem fresh_calls (p : UInt8 → Bool) (w : World) : Calls Try.prog 106 #[.int .u32 (setI p)] w fun e w' => e = .returned (.tuple #[.int .u8 (freshInt (freshOf p)), .bool (freshOf p).isSome]) ∧ w = w' := by
  have HP : Hid (∀ i, i < 26 → (Go.bits .and .u32 (setI p) (setI (eqS (letAt i))) = 0 ↔ p (letAt i) = false)) := fun i hi => set_test p (isLet_iff.mpr ⟨i, hi, rfl⟩)
  go_enter Try.func106, Try.ntmps106
  go_wp2_with fail
  go_loop [4] (fun c => ∃ i : Nat, i ≤ 26 ∧ c = .int .u8 (97 + i) ∧ freshOf p = (letsFrom i).find? fun c => !p c) (fun c => 26 - (intOf c - 97).toNat)
  case atStart => exact ⟨0, by omega, rfl, rfl⟩
  case round =>
    obtain ⟨i, hi, rfl, hf⟩ := hrel
    have HF := Lib.hid hf
    clear hf
    by_cases hlt : i < 26
    · have hb := bit_calls (isLet_iff.mpr ⟨i, hlt, rfl⟩) w
      rw [letAt_vl (by omega)] at hb
      have hpi := HP.out i hlt
      go_wp2_with fail
      refine hb.mono ?_
      rintro e w' ⟨rfl, rfl⟩
      by_cases hp : p (letAt i) = true
      · have hne : (Go.bits .and .u32 (setI p) (setI (eqS (letAt i))) == 0) = false := by
          rw [beq_eq_false_iff_ne]; intro h; rw [hpi.mp h] at hp; cases hp
        have HF2 : Hid (freshOf p = (letsFrom (i + 1)).find? fun c => !p c) := by
          show _ = _
          rw [HF.out, letsFrom_step hlt, List.find?_cons, hp]; rfl
        clear hb hpi hp
        go_wp2_with fail
        go_round
        case rel => exact ⟨i + 1, by omega, by go_num, HF2.out⟩
        case measure => simp [intOf]; omega
      · have hp' : p (letAt i) = false := by simpa using hp
        have he : (Go.bits .and .u32 (setI p) (setI (eqS (letAt i))) == 0) = true := by rw [beq_iff_eq]; exact hpi.mpr hp'
        have HF2 : Hid (freshOf p = some (letAt i)) := by
          show _ = _
          rw [HF.out, letsFrom_step hlt, List.find?_cons, hp']; rfl
        have HV : Hid (vl (letAt i) = 97 + i) := letAt_vl (by omega)
        clear hb hpi hp hp'
        go_wp2_with fail
        go_ret2
        exact ⟨by rw [HF2.out]; show _ = Ending.returned (.tuple #[.int .u8 (vl (letAt i)), .bool true]); rw [HV.out]; rfl, rfl⟩
    · have HF2 : Hid (freshOf p = none) := by
        show _ = _
        rw [HF.out, letsFrom_end (by omega)]; rfl
      go_wp2_with fail
      go_ret2
      exact ⟨by rw [HF2.out]; rfl, rfl⟩

end Go.Proofs.Ytfcadppidgkoaaa
