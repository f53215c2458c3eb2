/- The reference's search for a byte, and its first name that is not in a text. -/
import Derived.Test.YteepgblpoddcfaaPFreshNamex
import Derived.Test.YteepgblpoddcfaaSet
import Derived.Test.YteepgblpoddcfaaAt
namespace Go.Proofs.Yteepgblpoddcfaa.PFreshName
open Go.RowKit Go.Proofs.YteepgblpoddcfaaW.PrintWords Go.Proofs.YteepgblpoddcfaaW.PrintLast Go.Proofs.YteepgblpoddcfaaW.PrintMore
set_option linter.unusedVariables false
set_option linter.unusedSimpArgs false

/-- The reference's search for a byte. -/
theorem tmIn_l (s : List UInt8) (hs : s.length ≤ 100000000) (c : UInt8) (n : Nat) : ∀ (i k : Nat) (l : List UInt8), At s i l → l.length ≤ n → n < k → spec_tmIn.l0 k (B s) (vl c) i = some (l.contains c) := by
  induction n with
  | zero =>
    intro i k l h hl hk
    have : l = [] := List.length_eq_zero_iff.mp (by omega)
    subst this
    obtain ⟨k, rfl⟩ : ∃ m, k = m + 1 := ⟨k - 1, by omega⟩
    rw [spec_tmIn.l0, h.size, if_neg (by simp)]; rfl
  | succ n ih =>
    intro i k l h hl hk
    obtain ⟨k, rfl⟩ : ∃ m, k = m + 1 := ⟨k - 1, by omega⟩
    cases l with
    | nil => rw [spec_tmIn.l0, h.size, if_neg (by simp)]; rfl
    | cons d l =>
      have hz := h.size
      have hn := h.len
      simp only [List.length_cons] at hz hl hn
      have e := ih (i + 1) k l h.step (by omega) (by omega)
      have w : wrap64 ((i : Int) + 1) = (i + 1 : Nat) := by rw [wrap_id (by omega) (by omega)]; omega
      rw [spec_tmIn.l0, if_pos (by omega), if_pos (by omega), h.bt i 0 (by omega), at_cons_zero, w, e]
      by_cases hdc : d = c
      · subst hdc; simp
      · rw [if_neg (by rw [vl_inj]; exact hdc)]
        simp only [List.contains_cons]
        rw [show (c == d) = false from by simp; exact fun e => hdc e.symm]; rfl
theorem tmIn_f (s : List UInt8) (hs : s.length ≤ 100000000) (c : UInt8) (k : Nat) (hk : s.length < k) : spec_tmIn.f k (B s) (vl c) = some (s.contains c) :=
  tmIn_l s hs c s.length 0 k s (At.start s) (Nat.le_refl _) hk

theorem tmFresh_l1 (s : List UInt8) (hs : s.length ≤ 100000000) (j : Nat) : ∀ (i k : Nat), i + j = 63 → s.length + j < k → spec_tmFresh.l1 k (B s) (128 + i) = some (vl (((beyFrom i).find? fun c => !s.contains c).getD 191)) := by
  induction j with
  | zero =>
    intro i k hi hk
    obtain rfl : i = 63 := by omega
    obtain ⟨k, rfl⟩ : ∃ m, k = m + 1 := ⟨k - 1, by omega⟩
    rw [spec_tmFresh.l1, if_neg (by omega), beyFrom_end]; rfl
  | succ j ih =>
    intro i k hi hk
    obtain ⟨k, rfl⟩ : ∃ m, k = m + 1 := ⟨k - 1, by omega⟩
    have hn : (128 + (i : Int) + 1) % 256 = 128 + ((i + 1 : Nat) : Int) := by omega
    have hin := tmIn_f s hs (UInt8.ofNat (128 + i)) k (by omega)
    rw [bey_vl (by omega)] at hin
    rw [spec_tmFresh.l1, if_pos (by omega), hin, Option.bind_some, hn, ih (i + 1) k (by omega) (by omega), beyFrom_step (i := i) (by omega), List.find?_cons]
    by_cases hp : s.contains (UInt8.ofNat (128 + i)) = true
    · rw [if_pos hp, hp]; rfl
    · have hp' : s.contains (UInt8.ofNat (128 + i)) = false := by simpa using hp
      rw [if_neg hp, hp']
      show some (128 + (i : Int)) = some (vl (UInt8.ofNat (128 + i)))
      rw [bey_vl (by omega)]
theorem tmFresh_l0 (s : List UInt8) (hs : s.length ≤ 100000000) (j : Nat) : ∀ (i k : Nat), i + j = 26 → s.length + j + 70 < k → spec_tmFresh.l0 k (B s) (97 + i) = some (vl (match (letsFrom i).find? (fun c => !s.contains c) with
    | some c => c
    | none => ((beyFrom 0).find? fun c => !s.contains c).getD 191)) := by
  induction j with
  | zero =>
    intro i k hi hk
    obtain ⟨k, rfl⟩ : ∃ m, k = m + 1 := ⟨k - 1, by omega⟩
    rw [spec_tmFresh.l0, if_neg (by omega), letsFrom_end (by omega)]
    exact tmFresh_l1 s hs 63 0 k rfl (by omega)
  | succ j ih =>
    intro i k hi hk
    obtain ⟨k, rfl⟩ : ∃ m, k = m + 1 := ⟨k - 1, by omega⟩
    have hn : (97 + (i : Int) + 1) % 256 = 97 + ((i + 1 : Nat) : Int) := by omega
    have hin := tmIn_f s hs (letAt i) k (by omega)
    rw [letAt_vl (by omega)] at hin
    rw [spec_tmFresh.l0, if_pos (by omega), hin, Option.bind_some, hn, ih (i + 1) k (by omega) (by omega), letsFrom_step (i := i) (by omega), List.find?_cons]
    by_cases hp : s.contains (letAt i) = true
    · rw [if_pos hp, hp]; rfl
    · have hp' : s.contains (letAt i) = false := by simpa using hp
      rw [if_neg hp, hp']
      show some (97 + (i : Int)) = some (vl (letAt i))
      rw [letAt_vl (by omega)]
theorem tmFresh_f (s : List UInt8) (k : Nat) (hs : s.length ≤ 100000000) (hk : s.length + 100 ≤ k) : spec_tmFresh.f k (B s) = some (vl (freshB (inS s))) :=
  tmFresh_l0 s hs 26 0 k rfl (by omega)

end Go.Proofs.Yteepgblpoddcfaa.PFreshName
