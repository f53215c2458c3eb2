/- The walk of letters: a set of names as a text. -/
import Derived.Test.YtfcadppidgkoaaaBit
import Derived.Test.YtfcadppidgkoaaaSets
namespace Go.Proofs.Ytfcadppidgkoaaa
open Go.RowKit Go.Proofs.YtfcadppidgkoaaaW.PrintWords Go.Proofs.YtfcadppidgkoaaaW.PrintMore
set_option linter.unusedVariables false
set_option linter.unusedSimpArgs false

set_option maxHeartbeats 1000000 in
theorem letters_calls (p : UInt8 → Bool) (w : World) : Calls Try.prog 111 #[.int .u32 (setI p)] w fun e w' => e = .returned (.string (B (sortL p))) ∧ w = w' := by
  have HP : Hid (∀ i, i < 26 → (Go.bits .and .u32 (setI p) (setI (eqS (letAt i))) = 0 ↔ p (letAt i) = false)) := fun i hi => set_test p (isLet_iff.mpr ⟨i, hi, rfl⟩)
  go_enter Try.func111, Try.ntmps111
  go_wp2_with fail
  go_loop [3, 4] (fun o c => ∃ i : Nat, i ≤ 26 ∧ c = .int .u8 (97 + i) ∧ o = .string (B (sortTo p i))) (fun _ c => 26 - (intOf c - 97).toNat)
  case atStart => exact ⟨0, by omega, rfl, rfl⟩
  case round =>
    obtain ⟨i, hi, rfl, rfl⟩ := hrel
    by_cases hlt : i < 26
    · have hb := bit_calls (isLet_iff.mpr ⟨i, hlt, rfl⟩) w
      rw [letAt_vl (by omega)] at hb
      have hpi := HP.out i hlt
      have HS := Lib.hid (sortTo_succ p i)
      go_wp2_with fail
      refine hb.mono ?_
      rintro e w' ⟨rfl, rfl⟩
      by_cases hp : p (letAt i) = true
      · have hne : (Go.bits .and .u32 (setI p) (setI (eqS (letAt i))) != 0) = true := by
          rw [bne_iff_ne]; intro h; rw [hpi.mp h] at hp; cases hp
        have HF2 : Hid (sortTo p (i + 1) = sortTo p i ++ [letAt i]) := by
          show _ = _
          rw [HS.out, hp]; rfl
        clear hb hpi hp
        have hsz : (B (sortTo p i)).size ≤ 26 := by rw [B_size]; have := sortTo_len p i; omega
        have henc : Utf8.encode (97 + (i : Int)) = B [letAt i] := by
          have := enc_small (let_lt (isLet_iff.mpr ⟨i, hlt, rfl⟩))
          rw [letAt_vl (by omega)] at this; exact this
        have happ : B (sortTo p i) ++ B [letAt i] = B (sortTo p i ++ [letAt i]) := B_append _ _
        have hsz1 : (B [letAt i]).size = 1 := by rw [B_size]; rfl
        go_wp2_with fail
        go_round
        case rel => exact ⟨i + 1, by omega, by go_num, by rw [HF2.out]⟩
        case measure => simp [intOf]; omega
      · have hp' : p (letAt i) = false := by simpa using hp
        have he : (Go.bits .and .u32 (setI p) (setI (eqS (letAt i))) != 0) = false := by rw [bne_eq_false_iff_eq]; exact hpi.mpr hp'
        have HF2 : Hid (sortTo p (i + 1) = sortTo p i) := by
          show _ = _
          rw [HS.out, hp']; simp
        clear hb hpi hp hp'
        go_wp2_with fail
        go_round
        case rel => exact ⟨i + 1, by omega, by go_num, by rw [HF2.out]⟩
        case measure => simp [intOf]; omega
    · have HF2 : Hid (sortTo p i = sortL p) := by
        show _ = _
        rw [show i = 26 from by omega, sortTo_all]
      go_wp2_with fail
      go_ret
      exact ⟨by rw [HF2.out]; rfl, rfl⟩

end Go.Proofs.Ytfcadppidgkoaaa
