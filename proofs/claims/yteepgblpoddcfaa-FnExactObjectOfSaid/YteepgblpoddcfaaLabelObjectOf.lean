/- Whether a text is a label: the program and the reference tell the same, at every text of at most 2^20 bytes. -/
import Derived.Test.YteepgblpoddcfaaPFnExactObjectOfx1
import Derived.Test.YteepgblpoddcfaaBytes
namespace Go.Proofs.Yteepgblpoddcfaa.PFnExactObjectOf
open Go.RowKit Go.Proofs.YteepgblpoddcfaaW.PrintWords Go.Proofs.YteepgblpoddcfaaW.PrintLast

theorem num_eq (b c : UInt8) : ((b.toNat : Int) = (c.toNat : Int)) = (b = c) := by
  apply propext; rw [Int.ofNat_inj, UInt8.toNat_inj]

/-- The two tell the same of whether a text is a label. -/
theorem label_same (l : List UInt8) (h : l.length ≤ 1048576) : ∃ b, spec_stLabel.f (B l) = some b ∧ impl_IsLabel.f 1 (B l) = some b := by
  have e33 (b : UInt8) : ((b.toNat : Int) = 33) = (b = 33) := num_eq b 33
  have e63 (b : UInt8) : ((b.toNat : Int) = 63) = (b = 63) := num_eq b 63
  match l with
  | [] => simp [spec_stLabel.f, impl_IsLabel.f, impl_IsLabel.j0, B_toList, B_size]
  | [a] => 
    by_cases ha : a = 126 <;> simp [spec_stLabel.f, impl_IsLabel.f, impl_IsLabel.j0, B_toList, B_size, ha]
  | [a, b] => simp [spec_stLabel.f, impl_IsLabel.f, impl_IsLabel.j0, B_toList, B_size]
  | [a, b, c] =>
    by_cases h1 : 97 ≤ (a.toNat : Int) <;> by_cases h2 : (a.toNat : Int) ≤ 122 <;> by_cases h3 : 97 ≤ (c.toNat : Int) <;> by_cases h4 : (c.toNat : Int) ≤ 122 <;> by_cases h5 : b = 33 <;> by_cases h6 : b = 63 <;>
      simp [spec_stLabel.f, spec_tmOne.f, impl_IsLabel.f, impl_IsLabel.j0, impl_isLetter.f, B_toList, B_size, bt_B, B_extract, at_, wrap64, e33, e63, h1, h2, h3, h4, h5, h6]
  | [a, b, c, d] =>
    by_cases h1 : 97 ≤ (a.toNat : Int) <;> by_cases h2 : (a.toNat : Int) ≤ 122 <;> by_cases h3 : 97 ≤ (d.toNat : Int) <;> by_cases h4 : (d.toNat : Int) ≤ 122 <;> by_cases h5 : b = 33 <;> by_cases h6 : c = 35 <;>
      simp [spec_stLabel.f, spec_tmOne.f, impl_IsLabel.f, impl_IsLabel.j0, impl_isLetter.f, B_toList, B_size, bt_B, B_extract, at_, wrap64, h1, h2, h3, h4, h5, h6]
  | a :: b :: c :: d :: e :: l =>
    simp only [List.length_cons] at h
    have hw : wrap64 (((l.length + 1 + 1 + 1 + 1 + 1 : Nat) : Int) - 1) = (l.length : Int) + 4 := by
      rw [wrap_id (by omega) (by omega)]; omega
    have hj : ∀ x, impl_IsLabel.j0 1 (B (a :: b :: c :: d :: e :: l)) x = some false := by
      intro x
      have h4 : ((l.length : Int) + 4).toNat = l.length + 4 := by omega
      cases x with
      | true => rfl
      | false =>
        simp only [impl_IsLabel.j0, B_extract, B_toList, B_size, List.length_cons, hw, h4]
        rw [if_neg (by decide), if_pos (by omega), if_pos (by omega)]
        simp
    refine ⟨false, ?_, ?_⟩
    · simp [spec_stLabel.f, B_toList, B_size]
      rw [if_neg (by omega), if_neg (by omega)]
    · simp only [impl_IsLabel.f, hj]
      simp only [B_toList, B_size, impl_isLetter.f, List.length_cons, hw]
      rw [if_neg (by simp), if_neg (by omega), if_pos (by omega)]
      by_cases h1 : bt (B (a :: b :: c :: d :: e :: l)) 0 ≥ 97
      · rw [if_pos h1]
        by_cases h2 : bt (B (a :: b :: c :: d :: e :: l)) 0 ≤ 122
        · simp only [h2, decide_true, Option.bind_some, if_true]
          rw [if_pos (by omega), if_pos (by omega)]
          split <;> rfl
        · simp [h2]
      · rw [if_neg h1]; simp

end Go.Proofs.Yteepgblpoddcfaa.PFnExactObjectOf
