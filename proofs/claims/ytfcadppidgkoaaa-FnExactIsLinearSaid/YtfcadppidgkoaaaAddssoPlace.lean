/- Several texts in one.
   The reference's letters put into a text in order, and the letters of two texts.
   The reference's letters of two texts. -/
import Derived.Test.YtfcadppidgkoaaaPsoPlacex
import Derived.Test.YtfcadppidgkoaaaSets
import Derived.Test.YtfcadppidgkoaaaBase
namespace Go.Proofs.Ytfcadppidgkoaaa.PsoPlace
open Go.RowKit Go.Proofs.YtfcadppidgkoaaaW.PrintWords Go.Proofs.YtfcadppidgkoaaaW.PrintLast Go.Proofs.YtfcadppidgkoaaaW.PrintMore
set_option linter.unusedVariables false
set_option linter.unusedSimpArgs false

theorem str_one (c : UInt8) : strOfNums [vl c] = B [c] := by simp [strOfNums, B, vl]
theorem cut_in {pre l : List UInt8} {c : UInt8} {x : Int} (hx : x = pre.length) :
    ((B (pre ++ l)).extract 0 x.toNat ++ strOfNums [vl c]) ++ (B (pre ++ l)).extract x.toNat (B (pre ++ l)).size = B (pre ++ c :: l) := by
  subst hx
  rw [str_one, B_size, B_extract, B_extract, List.take_length, B_append, B_append]
  simp
theorem add_l (s : List UInt8) (hs : s.length ≤ 100000000) (c : UInt8) (n : Nat) : ∀ (pre l : List UInt8) (k : Nat), s = pre ++ l → l.length ≤ n → n < k → spec_tmAdd.l0 k (B s) (vl c) (pre.length : Nat) = some (B (pre ++ insL c l)) := by
  have last : ∀ (pre l : List UInt8), s = pre ++ l → (if (pre.length : Int) ≤ ((B s).size : Int) then ((some (([vl c] : List Int) : List Int)).bind fun y134 => (if ((B s).extract 0 (pre.length : Int).toNat).size + (strOfNums y134).size ≤ 9223372036854775807 then (if (((B s).extract 0 (pre.length : Int).toNat) ++ (strOfNums y134)).size + ((B s).extract (pre.length : Int).toNat (B s).size).size ≤ 9223372036854775807 then (some ((((B s).extract 0 (pre.length : Int).toNat) ++ (strOfNums y134)) ++ ((B s).extract (pre.length : Int).toNat (B s).size))) else (none)) else (none))) else (none)) = some (B (pre ++ c :: l)) := by
    intro pre l h
    have hn := congrArg List.length h
    rw [List.length_append] at hn
    rw [if_pos (by rw [B_size]; omega), Option.bind_some]
    have h1 : ((B s).extract 0 (pre.length : Int).toNat).size ≤ s.length := by rw [ByteArray.size_extract, B_size]; omega
    have h2 : (strOfNums [vl c]).size = 1 := by rw [str_one]; exact B_size _
    have h3 : ((B s).extract (pre.length : Int).toNat (B s).size).size ≤ s.length := by rw [ByteArray.size_extract, B_size]; omega
    rw [if_pos (by rw [h2]; omega), if_pos (by rw [ByteArray.size_append, h2]; omega)]
    subst h
    rw [cut_in rfl]
  induction n with
  | zero =>
    intro pre l k h hl hk
    have : l = [] := List.length_eq_zero_iff.mp (by omega)
    subst this
    obtain ⟨k, rfl⟩ : ∃ m, k = m + 1 := ⟨k - 1, by omega⟩
    have hn := congrArg List.length h
    rw [List.length_append] at hn
    rw [spec_tmAdd.l0, if_neg (by rw [B_size, hn]; simp), if_pos (by omega)]
    exact last pre [] h
  | succ n ih =>
    intro pre l k h hl hk
    obtain ⟨k, rfl⟩ : ∃ m, k = m + 1 := ⟨k - 1, by omega⟩
    have hn := congrArg List.length h
    rw [List.length_append] at hn
    cases l with
    | nil =>
      rw [spec_tmAdd.l0, if_neg (by rw [B_size, hn]; simp), if_pos (by omega)]
      exact last pre [] h
    | cons d l =>
      simp only [List.length_cons] at hl hn
      have hat : At s pre.length (d :: l) := ⟨pre, h, rfl⟩
      have e := ih (pre ++ [d]) l k (by rw [h]; simp) (by omega) (by omega)
      rw [show (pre ++ [d]).length = pre.length + 1 from by simp] at e
      have w : wrap64 ((pre.length : Int) + 1) = (pre.length + 1 : Nat) := by rw [wrap_id (by omega) (by omega)]; omega
      rw [spec_tmAdd.l0, if_pos (by rw [B_size]; omega), if_pos (by omega), hat.bt _ 0 (by omega), at_cons_zero, w, e]
      rw [insL_cons]
      by_cases h1 : vl d < vl c
      · rw [if_pos h1, if_pos h1]; simp
      · rw [if_neg h1, if_neg h1]
        by_cases h2 : d = c
        · subst h2; rw [if_pos rfl, if_pos rfl, h]
        · rw [if_neg (by rw [vl_inj]; exact h2), if_neg h2]
          exact last pre (d :: l) h
theorem add_f (s : List UInt8) (hs : s.length ≤ 100000000) (c : UInt8) (k : Nat) (hk : s.length < k) : spec_tmAdd.f k (B s) (vl c) = some (B (insL c s)) :=
  add_l s hs c s.length [] s k rfl (Nat.le_refl _) hk

end Go.Proofs.Ytfcadppidgkoaaa.PsoPlace
namespace Go.Proofs.Ytfcadppidgkoaaa.PsoPlace
open Go.RowKit Go.Proofs.YtfcadppidgkoaaaW.PrintWords Go.Proofs.YtfcadppidgkoaaaW.PrintLast Go.Proofs.YtfcadppidgkoaaaW.PrintMore
set_option linter.unusedVariables false
set_option linter.unusedSimpArgs false

theorem both_l (t : List UInt8) (ht : t.length ≤ 1000000) (n : Nat) : ∀ (s : List UInt8) (i k : Nat) (l : List UInt8), At t i l → l.length ≤ n → s.length + n ≤ 10000000 → s.length + 2 * n + 2 ≤ k → spec_tmBoth.l0 k (B s) (B t) i = some (B (bothL s l)) := by
  induction n with
  | zero =>
    intro s i k l h hl hs hk
    have : l = [] := List.length_eq_zero_iff.mp (by omega)
    subst this
    obtain ⟨k, rfl⟩ : ∃ m, k = m + 1 := ⟨k - 1, by omega⟩
    rw [spec_tmBoth.l0, h.size, if_neg (by simp)]; rfl
  | succ n ih =>
    intro s i k l h hl hs hk
    obtain ⟨k, rfl⟩ : ∃ m, k = m + 1 := ⟨k - 1, by omega⟩
    cases l with
    | nil => rw [spec_tmBoth.l0, h.size, if_neg (by simp)]; rfl
    | cons d l =>
      have hz := h.size
      have hn := h.len
      simp only [List.length_cons] at hz hl hn
      have w : wrap64 ((i : Int) + 1) = (i + 1 : Nat) := by rw [wrap_id (by omega) (by omega)]; omega
      have hi := insL_len d s
      rw [spec_tmBoth.l0, if_pos (by omega), if_pos (by omega), h.bt i 0 (by omega), at_cons_zero, w, add_f s (by omega) d k (by omega), Option.bind_some]
      exact ih _ _ _ _ h.step (by omega) (by omega) (by omega)
theorem both_f (s t : List UInt8) (hs : s.length ≤ 1000000) (ht : t.length ≤ 1000000) (k : Nat) (hk : s.length + 2 * t.length + 2 ≤ k) : spec_tmBoth.f k (B s) (B t) = some (B (bothL s t)) :=
  both_l t ht t.length s 0 k t (At.start t) (Nat.le_refl _) (by omega) hk

end Go.Proofs.Ytfcadppidgkoaaa.PsoPlace
