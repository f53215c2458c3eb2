/- The walks of bit and isLetter. -/
import Derived.Test.YtjinjanjjecmiaaSets
import Derived.Test.YtjinjanjjecmiaaBase
import Derived.Test.YtjinjanjjecmiaaSize
import Derived.Laws.ShiftsVarLaws
namespace Go.Proofs.Ytjinjanjjecmiaa
open Go.RowKit Go.Proofs.YtjinjanjjecmiaaW.PrintWords Go.Proofs.YtjinjanjjecmiaaW.PrintMore
set_option linter.unusedVariables false
set_option linter.unusedSimpArgs false

theorem let_index {c : UInt8} (h : isLet c = true) : ∃ i : Nat, i < 26 ∧ vl c = 97 + i ∧ c = letAt i := by
  obtain ⟨i, hi, rfl⟩ := isLet_iff.mp h
  exact ⟨i, hi, letAt_vl (by omega), rfl⟩

theorem bit_val {i : Nat} (hi : i < 26) : (2 : Int) ^ i % 4294967296 = setI (eqS (letAt i)) := by
  have hs := set_bit (isLet_iff.mpr ⟨i, hi, rfl⟩)
  rw [letAt_vl (by omega), show (97 + (i : Int) - 97) % 256 = (i : Int) from by omega] at hs
  rw [← hs]
  unfold shl
  rw [show min (i : Int).toNat IntKind.u32.bits = i from Nat.min_eq_left (by show i ≤ 32; omega), IntKind.wrap_u32, Int.one_mul]

set_option maxHeartbeats 400000 in
theorem bit_calls {c : UInt8} (h : isLet c = true) (w : World) : Calls Try.prog 92 #[.int .u8 (vl c)] w fun e w' => e = .returned (.int .u32 (setI (eqS c))) ∧ w = w' := by
  obtain ⟨i, hi, hv, rfl⟩ := let_index h
  rw [hv]
  have HS := Lib.hid (bit_val hi)
  have e1 : ((97 : Int) + i - 97) = i := by omega
  clear hv h
  go_enter Try.func92, Try.ntmps92
  go_wp2_with fail
  go_ret
  exact ⟨by rw [← HS.out]; rfl, rfl⟩

set_option maxHeartbeats 400000 in
theorem isLetter_calls (c : UInt8) (w : World) : Calls Try.prog 78 #[.int .u8 (vl c)] w fun e w' => e = .returned (.bool (isLet c)) ∧ w = w' := by
  obtain ⟨v0, v1⟩ := vl_range c
  have HL : Hid (isLet c = (decide (97 ≤ vl c) && decide (vl c ≤ 122))) := rfl
  by_cases h1 : 97 ≤ vl c
  · go_enter Try.func78, Try.ntmps78
    go_wp2_with fail
    go_ret
    exact ⟨by rw [HL.out]; simp [h1]; try omega, rfl⟩
  · go_enter Try.func78, Try.ntmps78
    go_wp2_with fail
    go_ret
    exact ⟨by rw [HL.out]; simp [h1]; try omega, rfl⟩

end Go.Proofs.Ytjinjanjjecmiaa
