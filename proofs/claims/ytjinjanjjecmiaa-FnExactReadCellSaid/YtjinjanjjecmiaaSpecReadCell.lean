/- The reference's functions on texts, at the text of a term: end, kind, head, parts, size; and what is a process. -/
import Derived.Test.YtjinjanjjecmiaaPReadCellx
import Derived.Test.YtjinjanjjecmiaaAt
namespace Go.Proofs.Ytjinjanjjecmiaa.PReadCell
open Go.RowKit Go.Proofs.YtjinjanjjecmiaaW.PrintWords Go.Proofs.YtjinjanjjecmiaaW.PrintLast Go.Proofs.YtjinjanjjecmiaaW.PrintMore
set_option linter.unusedVariables false
set_option linter.unusedSimpArgs false

/-- The reference's names: small and great letters, and signs beyond. -/
def nameB (c : UInt8) : Bool := decide (97 ≤ vl c ∧ vl c ≤ 122 ∨ 65 ≤ vl c ∧ vl c ≤ 90 ∨ 128 ≤ vl c)
theorem name_f (c : UInt8) : spec_tmName.f (vl c) = some (nameB c) := by
  unfold spec_tmName.f nameB
  by_cases h1 : 97 ≤ vl c <;> by_cases h2 : vl c ≤ 122 <;> by_cases h3 : 65 ≤ vl c <;> by_cases h4 : vl c ≤ 90 <;> by_cases h5 : 128 ≤ vl c <;> simp [h1, h2, h3, h4, h5]
theorem let_name {c : UInt8} (h : isLet c = true) : nameB c = true := by
  simp [isLet] at h; simp [nameB, h]
theorem name_ne {c : UInt8} (h : nameB c = true) : c ≠ 48 ∧ c ≠ 126 ∧ c ≠ 35 ∧ c ≠ 91 ∧ c ≠ 42 ∧ c ≠ 40 := by
  refine ⟨?_, ?_, ?_, ?_, ?_, ?_⟩ <;> (rintro rfl; exact absurd h (by decide))
theorem Wf.names {P Q : UInt8 → Bool} (hPQ : ∀ c, P c = true → Q c = true) : ∀ {t : Tm}, Wf P t → Wf Q t
  | .leaf _ _ _, h => h
  | .un _ _ _ _, ⟨h, hw⟩ => ⟨h.imp (fun ⟨a, b, c⟩ => ⟨a, hPQ _ b, hPQ _ c⟩) (fun h => h.imp (fun ⟨a, b, c⟩ => ⟨a, b, hPQ _ c⟩) id), Wf.names hPQ hw⟩
  | .bin _ _ _ _ _, ⟨h1, h2, h3, h4, h5⟩ => ⟨h1, h2, h3, Wf.names hPQ h4, Wf.names hPQ h5⟩

theorem e33 (c : UInt8) : (vl c = 33) = (c = 33) := propext (vl_inj (c := 33))
theorem e35 (c : UInt8) : (vl c = 35) = (c = 35) := propext (vl_inj (c := 35))
theorem e38 (c : UInt8) : (vl c = 38) = (c = 38) := propext (vl_inj (c := 38))
theorem e40 (c : UInt8) : (vl c = 40) = (c = 40) := propext (vl_inj (c := 40))
theorem e41 (c : UInt8) : (vl c = 41) = (c = 41) := propext (vl_inj (c := 41))
theorem e42 (c : UInt8) : (vl c = 42) = (c = 42) := propext (vl_inj (c := 42))
theorem e43 (c : UInt8) : (vl c = 43) = (c = 43) := propext (vl_inj (c := 43))
theorem e46 (c : UInt8) : (vl c = 46) = (c = 46) := propext (vl_inj (c := 46))
theorem e48 (c : UInt8) : (vl c = 48) = (c = 48) := propext (vl_inj (c := 48))
theorem e61 (c : UInt8) : (vl c = 61) = (c = 61) := propext (vl_inj (c := 61))
theorem e63 (c : UInt8) : (vl c = 63) = (c = 63) := propext (vl_inj (c := 63))
theorem e91 (c : UInt8) : (vl c = 91) = (c = 91) := propext (vl_inj (c := 91))
theorem e93 (c : UInt8) : (vl c = 93) = (c = 93) := propext (vl_inj (c := 93))
theorem e126 (c : UInt8) : (vl c = 126) = (c = 126) := propext (vl_inj (c := 126))

theorem bind_id {α : Type} (x : Option α) : (x.bind fun t => some t) = x := by cases x <;> rfl

theorem end_nil {s : List UInt8} {i : Nat} (k : Nat) (h : At s i []) : spec_tmEnd.f (k + 1) (B s) i = some (-1) := by
  unfold spec_tmEnd.f
  rw [h.size, if_pos (by simp)]
section
variable {s : List UInt8} {i : Nat} {l : List UInt8} (k : Nat) (hs : s.length ≤ 1000000)
include hs
theorem end_zero (h : At s i (48 :: l)) : spec_tmEnd.f (k + 1) (B s) i = some ((i + 1 : Nat) : Int) := by
  have hn := h.len
  simp only [List.length_cons, List.length_append, List.length_nil] at hn
  have w1 : wrap64 ((i : Int) + 1) = (i + 1 : Nat) := by rw [wrap_id (by omega) (by omega)]; omega
  have w2 : wrap64 ((i : Int) + 2) = (i + 2 : Nat) := by rw [wrap_id (by omega) (by omega)]; omega
  have w3 : wrap64 ((i : Int) + 3) = (i + 3 : Nat) := by rw [wrap_id (by omega) (by omega)]; omega
  have w4 : wrap64 ((i : Int) + 4) = (i + 4 : Nat) := by rw [wrap_id (by omega) (by omega)]; omega
  have w5 : wrap64 ((i : Int) + 5) = (i + 5 : Nat) := by rw [wrap_id (by omega) (by omega)]; omega
  have b0 := h.bt i 0 (by omega)
  have b1 := h.bt ((i + 1 : Nat) : Int) 1 (by omega)
  have b2 := h.bt ((i + 2 : Nat) : Int) 2 (by omega)
  have b3 := h.bt ((i + 3 : Nat) : Int) 3 (by omega)
  have b4 := h.bt ((i + 4 : Nat) : Int) 4 (by omega)
  simp only [spec_tmEnd.f, w1, w2, w3, w4, w5, h.size, b0, b1, b2, b3, b4, at_cons_zero, at_cons_succ, name_f, Option.bind_some, List.length_cons, List.length_nil]
  rw [if_neg (by omega), if_pos (by omega), if_pos (by omega)]
  rw [if_pos (by rfl)]
theorem end_star (h : At s i (42 :: l)) : spec_tmEnd.f (k + 1) (B s) i = spec_tmEnd.f k (B s) (i + 1 : Nat) := by
  have hn := h.len
  simp only [List.length_cons, List.length_append, List.length_nil] at hn
  have w1 : wrap64 ((i : Int) + 1) = (i + 1 : Nat) := by rw [wrap_id (by omega) (by omega)]; omega
  have w2 : wrap64 ((i : Int) + 2) = (i + 2 : Nat) := by rw [wrap_id (by omega) (by omega)]; omega
  have w3 : wrap64 ((i : Int) + 3) = (i + 3 : Nat) := by rw [wrap_id (by omega) (by omega)]; omega
  have w4 : wrap64 ((i : Int) + 4) = (i + 4 : Nat) := by rw [wrap_id (by omega) (by omega)]; omega
  have w5 : wrap64 ((i : Int) + 5) = (i + 5 : Nat) := by rw [wrap_id (by omega) (by omega)]; omega
  have b0 := h.bt i 0 (by omega)
  have b1 := h.bt ((i + 1 : Nat) : Int) 1 (by omega)
  have b2 := h.bt ((i + 2 : Nat) : Int) 2 (by omega)
  have b3 := h.bt ((i + 3 : Nat) : Int) 3 (by omega)
  have b4 := h.bt ((i + 4 : Nat) : Int) 4 (by omega)
  simp only [spec_tmEnd.f, w1, w2, w3, w4, w5, h.size, b0, b1, b2, b3, b4, at_cons_zero, at_cons_succ, name_f, Option.bind_some, List.length_cons, List.length_nil]
  rw [if_neg (by omega), if_pos (by omega), if_pos (by omega)]
  rw [if_neg (by decide), if_pos (by rfl), bind_id]
theorem end_tilde (h : At s i (126 :: 46 :: l)) : spec_tmEnd.f (k + 1) (B s) i = spec_tmEnd.f k (B s) (i + 2 : Nat) := by
  have hn := h.len
  simp only [List.length_cons, List.length_append, List.length_nil] at hn
  have w1 : wrap64 ((i : Int) + 1) = (i + 1 : Nat) := by rw [wrap_id (by omega) (by omega)]; omega
  have w2 : wrap64 ((i : Int) + 2) = (i + 2 : Nat) := by rw [wrap_id (by omega) (by omega)]; omega
  have w3 : wrap64 ((i : Int) + 3) = (i + 3 : Nat) := by rw [wrap_id (by omega) (by omega)]; omega
  have w4 : wrap64 ((i : Int) + 4) = (i + 4 : Nat) := by rw [wrap_id (by omega) (by omega)]; omega
  have w5 : wrap64 ((i : Int) + 5) = (i + 5 : Nat) := by rw [wrap_id (by omega) (by omega)]; omega
  have b0 := h.bt i 0 (by omega)
  have b1 := h.bt ((i + 1 : Nat) : Int) 1 (by omega)
  have b2 := h.bt ((i + 2 : Nat) : Int) 2 (by omega)
  have b3 := h.bt ((i + 3 : Nat) : Int) 3 (by omega)
  have b4 := h.bt ((i + 4 : Nat) : Int) 4 (by omega)
  simp only [spec_tmEnd.f, w1, w2, w3, w4, w5, h.size, b0, b1, b2, b3, b4, at_cons_zero, at_cons_succ, name_f, Option.bind_some, List.length_cons, List.length_nil]
  rw [if_neg (by omega), if_pos (by omega), if_pos (by omega)]
  rw [if_neg (by decide), if_neg (by decide), if_pos (by rfl), if_pos (by omega), if_pos (by omega), if_pos (by rfl), bind_id]
theorem end_tilde0 (h : At s i (126 :: l)) (hne : ∀ l', l ≠ 46 :: l') : spec_tmEnd.f (k + 1) (B s) i = some (-1) := by
  cases l with
  | nil =>
    have hn := h.len
    simp only [List.length_cons, List.length_append, List.length_nil] at hn
    have w1 : wrap64 ((i : Int) + 1) = (i + 1 : Nat) := by rw [wrap_id (by omega) (by omega)]; omega
    have w2 : wrap64 ((i : Int) + 2) = (i + 2 : Nat) := by rw [wrap_id (by omega) (by omega)]; omega
    have w3 : wrap64 ((i : Int) + 3) = (i + 3 : Nat) := by rw [wrap_id (by omega) (by omega)]; omega
    have w4 : wrap64 ((i : Int) + 4) = (i + 4 : Nat) := by rw [wrap_id (by omega) (by omega)]; omega
    have w5 : wrap64 ((i : Int) + 5) = (i + 5 : Nat) := by rw [wrap_id (by omega) (by omega)]; omega
    have b0 := h.bt i 0 (by omega)
    have b1 := h.bt ((i + 1 : Nat) : Int) 1 (by omega)
    have b2 := h.bt ((i + 2 : Nat) : Int) 2 (by omega)
    have b3 := h.bt ((i + 3 : Nat) : Int) 3 (by omega)
    have b4 := h.bt ((i + 4 : Nat) : Int) 4 (by omega)
    simp only [spec_tmEnd.f, w1, w2, w3, w4, w5, h.size, b0, b1, b2, b3, b4, at_cons_zero, at_cons_succ, name_f, Option.bind_some, List.length_cons, List.length_nil]
    rw [if_neg (by omega), if_pos (by omega), if_pos (by omega)]
    rw [if_neg (by decide), if_neg (by decide), if_pos (by rfl), if_neg (by omega)]
  | cons c l =>
    have hn := h.len
    simp only [List.length_cons, List.length_append, List.length_nil] at hn
    have w1 : wrap64 ((i : Int) + 1) = (i + 1 : Nat) := by rw [wrap_id (by omega) (by omega)]; omega
    have w2 : wrap64 ((i : Int) + 2) = (i + 2 : Nat) := by rw [wrap_id (by omega) (by omega)]; omega
    have w3 : wrap64 ((i : Int) + 3) = (i + 3 : Nat) := by rw [wrap_id (by omega) (by omega)]; omega
    have w4 : wrap64 ((i : Int) + 4) = (i + 4 : Nat) := by rw [wrap_id (by omega) (by omega)]; omega
    have w5 : wrap64 ((i : Int) + 5) = (i + 5 : Nat) := by rw [wrap_id (by omega) (by omega)]; omega
    have b0 := h.bt i 0 (by omega)
    have b1 := h.bt ((i + 1 : Nat) : Int) 1 (by omega)
    have b2 := h.bt ((i + 2 : Nat) : Int) 2 (by omega)
    have b3 := h.bt ((i + 3 : Nat) : Int) 3 (by omega)
    have b4 := h.bt ((i + 4 : Nat) : Int) 4 (by omega)
    simp only [spec_tmEnd.f, w1, w2, w3, w4, w5, h.size, b0, b1, b2, b3, b4, at_cons_zero, at_cons_succ, name_f, Option.bind_some, List.length_cons, List.length_nil]
    rw [if_neg (by omega), if_pos (by omega), if_pos (by omega)]
    rw [if_neg (by decide), if_neg (by decide), if_pos (by rfl), if_pos (by omega), if_pos (by omega), if_neg (by rw [e46]; rintro rfl; exact hne l rfl)]
theorem end_hash {x : UInt8} (h : At s i (35 :: x :: 46 :: l)) (hx : nameB x = true) : spec_tmEnd.f (k + 1) (B s) i = spec_tmEnd.f k (B s) (i + 3 : Nat) := by
  have hn := h.len
  simp only [List.length_cons, List.length_append, List.length_nil] at hn
  have w1 : wrap64 ((i : Int) + 1) = (i + 1 : Nat) := by rw [wrap_id (by omega) (by omega)]; omega
  have w2 : wrap64 ((i : Int) + 2) = (i + 2 : Nat) := by rw [wrap_id (by omega) (by omega)]; omega
  have w3 : wrap64 ((i : Int) + 3) = (i + 3 : Nat) := by rw [wrap_id (by omega) (by omega)]; omega
  have w4 : wrap64 ((i : Int) + 4) = (i + 4 : Nat) := by rw [wrap_id (by omega) (by omega)]; omega
  have w5 : wrap64 ((i : Int) + 5) = (i + 5 : Nat) := by rw [wrap_id (by omega) (by omega)]; omega
  have b0 := h.bt i 0 (by omega)
  have b1 := h.bt ((i + 1 : Nat) : Int) 1 (by omega)
  have b2 := h.bt ((i + 2 : Nat) : Int) 2 (by omega)
  have b3 := h.bt ((i + 3 : Nat) : Int) 3 (by omega)
  have b4 := h.bt ((i + 4 : Nat) : Int) 4 (by omega)
  simp only [spec_tmEnd.f, w1, w2, w3, w4, w5, h.size, b0, b1, b2, b3, b4, at_cons_zero, at_cons_succ, name_f, Option.bind_some, List.length_cons, List.length_nil]
  rw [if_neg (by omega), if_pos (by omega), if_pos (by omega)]
  rw [if_neg (by decide), if_neg (by decide), if_neg (by decide), if_pos (by rfl), if_pos (by omega), if_pos (by omega), if_pos (by omega), if_pos hx, if_pos (by omega), if_pos (by rfl), bind_id]
theorem end_hash0 (h : At s i (35 :: l)) (hne : ∀ x l', l = x :: 46 :: l' → nameB x = false) : spec_tmEnd.f (k + 1) (B s) i = some (-1) := by
  match l, hne, h with
  | [], hne, h =>
    have hn := h.len
    simp only [List.length_cons, List.length_append, List.length_nil] at hn
    have w1 : wrap64 ((i : Int) + 1) = (i + 1 : Nat) := by rw [wrap_id (by omega) (by omega)]; omega
    have w2 : wrap64 ((i : Int) + 2) = (i + 2 : Nat) := by rw [wrap_id (by omega) (by omega)]; omega
    have w3 : wrap64 ((i : Int) + 3) = (i + 3 : Nat) := by rw [wrap_id (by omega) (by omega)]; omega
    have w4 : wrap64 ((i : Int) + 4) = (i + 4 : Nat) := by rw [wrap_id (by omega) (by omega)]; omega
    have w5 : wrap64 ((i : Int) + 5) = (i + 5 : Nat) := by rw [wrap_id (by omega) (by omega)]; omega
    have b0 := h.bt i 0 (by omega)
    have b1 := h.bt ((i + 1 : Nat) : Int) 1 (by omega)
    have b2 := h.bt ((i + 2 : Nat) : Int) 2 (by omega)
    have b3 := h.bt ((i + 3 : Nat) : Int) 3 (by omega)
    have b4 := h.bt ((i + 4 : Nat) : Int) 4 (by omega)
    simp only [spec_tmEnd.f, w1, w2, w3, w4, w5, h.size, b0, b1, b2, b3, b4, at_cons_zero, at_cons_succ, name_f, Option.bind_some, List.length_cons, List.length_nil]
    rw [if_neg (by omega), if_pos (by omega), if_pos (by omega)]
    rw [if_neg (by decide), if_neg (by decide), if_neg (by decide), if_pos (by rfl), if_neg (by omega)]
  | [x], hne, h =>
    have hn := h.len
    simp only [List.length_cons, List.length_append, List.length_nil] at hn
    have w1 : wrap64 ((i : Int) + 1) = (i + 1 : Nat) := by rw [wrap_id (by omega) (by omega)]; omega
    have w2 : wrap64 ((i : Int) + 2) = (i + 2 : Nat) := by rw [wrap_id (by omega) (by omega)]; omega
    have w3 : wrap64 ((i : Int) + 3) = (i + 3 : Nat) := by rw [wrap_id (by omega) (by omega)]; omega
    have w4 : wrap64 ((i : Int) + 4) = (i + 4 : Nat) := by rw [wrap_id (by omega) (by omega)]; omega
    have w5 : wrap64 ((i : Int) + 5) = (i + 5 : Nat) := by rw [wrap_id (by omega) (by omega)]; omega
    have b0 := h.bt i 0 (by omega)
    have b1 := h.bt ((i + 1 : Nat) : Int) 1 (by omega)
    have b2 := h.bt ((i + 2 : Nat) : Int) 2 (by omega)
    have b3 := h.bt ((i + 3 : Nat) : Int) 3 (by omega)
    have b4 := h.bt ((i + 4 : Nat) : Int) 4 (by omega)
    simp only [spec_tmEnd.f, w1, w2, w3, w4, w5, h.size, b0, b1, b2, b3, b4, at_cons_zero, at_cons_succ, name_f, Option.bind_some, List.length_cons, List.length_nil]
    rw [if_neg (by omega), if_pos (by omega), if_pos (by omega)]
    rw [if_neg (by decide), if_neg (by decide), if_neg (by decide), if_pos (by rfl), if_neg (by omega)]
  | x :: y :: l, hne, h =>
    have hn := h.len
    simp only [List.length_cons, List.length_append, List.length_nil] at hn
    have w1 : wrap64 ((i : Int) + 1) = (i + 1 : Nat) := by rw [wrap_id (by omega) (by omega)]; omega
    have w2 : wrap64 ((i : Int) + 2) = (i + 2 : Nat) := by rw [wrap_id (by omega) (by omega)]; omega
    have w3 : wrap64 ((i : Int) + 3) = (i + 3 : Nat) := by rw [wrap_id (by omega) (by omega)]; omega
    have w4 : wrap64 ((i : Int) + 4) = (i + 4 : Nat) := by rw [wrap_id (by omega) (by omega)]; omega
    have w5 : wrap64 ((i : Int) + 5) = (i + 5 : Nat) := by rw [wrap_id (by omega) (by omega)]; omega
    have b0 := h.bt i 0 (by omega)
    have b1 := h.bt ((i + 1 : Nat) : Int) 1 (by omega)
    have b2 := h.bt ((i + 2 : Nat) : Int) 2 (by omega)
    have b3 := h.bt ((i + 3 : Nat) : Int) 3 (by omega)
    have b4 := h.bt ((i + 4 : Nat) : Int) 4 (by omega)
    simp only [spec_tmEnd.f, w1, w2, w3, w4, w5, h.size, b0, b1, b2, b3, b4, at_cons_zero, at_cons_succ, name_f, Option.bind_some, List.length_cons, List.length_nil]
    rw [if_neg (by omega), if_pos (by omega), if_pos (by omega)]
    rw [if_neg (by decide), if_neg (by decide), if_neg (by decide), if_pos (by rfl), if_pos (by omega), if_pos (by omega), if_pos (by omega)]
    by_cases hx : nameB x = true
    · rw [if_pos hx, if_pos (by omega), if_neg (by rw [e46]; rintro rfl; rw [hne x l rfl] at hx; cases hx)]
    · rw [if_neg hx]
theorem end_match {x y : UInt8} (h : At s i (91 :: x :: 61 :: y :: 93 :: l)) (hx : nameB x = true) (hy : nameB y = true) : spec_tmEnd.f (k + 1) (B s) i = spec_tmEnd.f k (B s) (i + 5 : Nat) := by
  have hn := h.len
  simp only [List.length_cons, List.length_append, List.length_nil] at hn
  have w1 : wrap64 ((i : Int) + 1) = (i + 1 : Nat) := by rw [wrap_id (by omega) (by omega)]; omega
  have w2 : wrap64 ((i : Int) + 2) = (i + 2 : Nat) := by rw [wrap_id (by omega) (by omega)]; omega
  have w3 : wrap64 ((i : Int) + 3) = (i + 3 : Nat) := by rw [wrap_id (by omega) (by omega)]; omega
  have w4 : wrap64 ((i : Int) + 4) = (i + 4 : Nat) := by rw [wrap_id (by omega) (by omega)]; omega
  have w5 : wrap64 ((i : Int) + 5) = (i + 5 : Nat) := by rw [wrap_id (by omega) (by omega)]; omega
  have b0 := h.bt i 0 (by omega)
  have b1 := h.bt ((i + 1 : Nat) : Int) 1 (by omega)
  have b2 := h.bt ((i + 2 : Nat) : Int) 2 (by omega)
  have b3 := h.bt ((i + 3 : Nat) : Int) 3 (by omega)
  have b4 := h.bt ((i + 4 : Nat) : Int) 4 (by omega)
  simp only [spec_tmEnd.f, w1, w2, w3, w4, w5, h.size, b0, b1, b2, b3, b4, at_cons_zero, at_cons_succ, name_f, Option.bind_some, List.length_cons, List.length_nil]
  rw [if_neg (by omega), if_pos (by omega), if_pos (by omega)]
  rw [if_neg (by decide), if_neg (by decide), if_neg (by decide), if_neg (by decide), if_pos (by rfl), if_pos (by omega), if_pos (by omega), if_pos (by omega), if_pos hx, if_pos (by omega), if_pos (by omega), if_pos (by rfl),
    if_pos (by omega), if_pos (by omega), if_pos hy, if_pos (by omega), if_pos (by rfl), bind_id]
theorem end_match0 (h : At s i (91 :: l)) (hne : ∀ x y l', l = x :: 61 :: y :: 93 :: l' → nameB x = false ∨ nameB y = false) : spec_tmEnd.f (k + 1) (B s) i = some (-1) := by
  match l, hne, h with
  | [], hne, h =>
    have hn := h.len
    simp only [List.length_cons, List.length_append, List.length_nil] at hn
    have w1 : wrap64 ((i : Int) + 1) = (i + 1 : Nat) := by rw [wrap_id (by omega) (by omega)]; omega
    have w2 : wrap64 ((i : Int) + 2) = (i + 2 : Nat) := by rw [wrap_id (by omega) (by omega)]; omega
    have w3 : wrap64 ((i : Int) + 3) = (i + 3 : Nat) := by rw [wrap_id (by omega) (by omega)]; omega
    have w4 : wrap64 ((i : Int) + 4) = (i + 4 : Nat) := by rw [wrap_id (by omega) (by omega)]; omega
    have w5 : wrap64 ((i : Int) + 5) = (i + 5 : Nat) := by rw [wrap_id (by omega) (by omega)]; omega
    have b0 := h.bt i 0 (by omega)
    have b1 := h.bt ((i + 1 : Nat) : Int) 1 (by omega)
    have b2 := h.bt ((i + 2 : Nat) : Int) 2 (by omega)
    have b3 := h.bt ((i + 3 : Nat) : Int) 3 (by omega)
    have b4 := h.bt ((i + 4 : Nat) : Int) 4 (by omega)
    simp only [spec_tmEnd.f, w1, w2, w3, w4, w5, h.size, b0, b1, b2, b3, b4, at_cons_zero, at_cons_succ, name_f, Option.bind_some, List.length_cons, List.length_nil]
    rw [if_neg (by omega), if_pos (by omega), if_pos (by omega)]
    rw [if_neg (by decide), if_neg (by decide), if_neg (by decide), if_neg (by decide), if_pos (by rfl), if_neg (by omega)]
  | [x], hne, h =>
    have hn := h.len
    simp only [List.length_cons, List.length_append, List.length_nil] at hn
    have w1 : wrap64 ((i : Int) + 1) = (i + 1 : Nat) := by rw [wrap_id (by omega) (by omega)]; omega
    have w2 : wrap64 ((i : Int) + 2) = (i + 2 : Nat) := by rw [wrap_id (by omega) (by omega)]; omega
    have w3 : wrap64 ((i : Int) + 3) = (i + 3 : Nat) := by rw [wrap_id (by omega) (by omega)]; omega
    have w4 : wrap64 ((i : Int) + 4) = (i + 4 : Nat) := by rw [wrap_id (by omega) (by omega)]; omega
    have w5 : wrap64 ((i : Int) + 5) = (i + 5 : Nat) := by rw [wrap_id (by omega) (by omega)]; omega
    have b0 := h.bt i 0 (by omega)
    have b1 := h.bt ((i + 1 : Nat) : Int) 1 (by omega)
    have b2 := h.bt ((i + 2 : Nat) : Int) 2 (by omega)
    have b3 := h.bt ((i + 3 : Nat) : Int) 3 (by omega)
    have b4 := h.bt ((i + 4 : Nat) : Int) 4 (by omega)
    simp only [spec_tmEnd.f, w1, w2, w3, w4, w5, h.size, b0, b1, b2, b3, b4, at_cons_zero, at_cons_succ, name_f, Option.bind_some, List.length_cons, List.length_nil]
    rw [if_neg (by omega), if_pos (by omega), if_pos (by omega)]
    rw [if_neg (by decide), if_neg (by decide), if_neg (by decide), if_neg (by decide), if_pos (by rfl), if_neg (by omega)]
  | [x, y], hne, h =>
    have hn := h.len
    simp only [List.length_cons, List.length_append, List.length_nil] at hn
    have w1 : wrap64 ((i : Int) + 1) = (i + 1 : Nat) := by rw [wrap_id (by omega) (by omega)]; omega
    have w2 : wrap64 ((i : Int) + 2) = (i + 2 : Nat) := by rw [wrap_id (by omega) (by omega)]; omega
    have w3 : wrap64 ((i : Int) + 3) = (i + 3 : Nat) := by rw [wrap_id (by omega) (by omega)]; omega
    have w4 : wrap64 ((i : Int) + 4) = (i + 4 : Nat) := by rw [wrap_id (by omega) (by omega)]; omega
    have w5 : wrap64 ((i : Int) + 5) = (i + 5 : Nat) := by rw [wrap_id (by omega) (by omega)]; omega
    have b0 := h.bt i 0 (by omega)
    have b1 := h.bt ((i + 1 : Nat) : Int) 1 (by omega)
    have b2 := h.bt ((i + 2 : Nat) : Int) 2 (by omega)
    have b3 := h.bt ((i + 3 : Nat) : Int) 3 (by omega)
    have b4 := h.bt ((i + 4 : Nat) : Int) 4 (by omega)
    simp only [spec_tmEnd.f, w1, w2, w3, w4, w5, h.size, b0, b1, b2, b3, b4, at_cons_zero, at_cons_succ, name_f, Option.bind_some, List.length_cons, List.length_nil]
    rw [if_neg (by omega), if_pos (by omega), if_pos (by omega)]
    rw [if_neg (by decide), if_neg (by decide), if_neg (by decide), if_neg (by decide), if_pos (by rfl), if_neg (by omega)]
  | [x, y, z], hne, h =>
    have hn := h.len
    simp only [List.length_cons, List.length_append, List.length_nil] at hn
    have w1 : wrap64 ((i : Int) + 1) = (i + 1 : Nat) := by rw [wrap_id (by omega) (by omega)]; omega
    have w2 : wrap64 ((i : Int) + 2) = (i + 2 : Nat) := by rw [wrap_id (by omega) (by omega)]; omega
    have w3 : wrap64 ((i : Int) + 3) = (i + 3 : Nat) := by rw [wrap_id (by omega) (by omega)]; omega
    have w4 : wrap64 ((i : Int) + 4) = (i + 4 : Nat) := by rw [wrap_id (by omega) (by omega)]; omega
    have w5 : wrap64 ((i : Int) + 5) = (i + 5 : Nat) := by rw [wrap_id (by omega) (by omega)]; omega
    have b0 := h.bt i 0 (by omega)
    have b1 := h.bt ((i + 1 : Nat) : Int) 1 (by omega)
    have b2 := h.bt ((i + 2 : Nat) : Int) 2 (by omega)
    have b3 := h.bt ((i + 3 : Nat) : Int) 3 (by omega)
    have b4 := h.bt ((i + 4 : Nat) : Int) 4 (by omega)
    simp only [spec_tmEnd.f, w1, w2, w3, w4, w5, h.size, b0, b1, b2, b3, b4, at_cons_zero, at_cons_succ, name_f, Option.bind_some, List.length_cons, List.length_nil]
    rw [if_neg (by omega), if_pos (by omega), if_pos (by omega)]
    rw [if_neg (by decide), if_neg (by decide), if_neg (by decide), if_neg (by decide), if_pos (by rfl), if_neg (by omega)]
  | x :: y :: z :: u :: l, hne, h =>
    have hn := h.len
    simp only [List.length_cons, List.length_append, List.length_nil] at hn
    have w1 : wrap64 ((i : Int) + 1) = (i + 1 : Nat) := by rw [wrap_id (by omega) (by omega)]; omega
    have w2 : wrap64 ((i : Int) + 2) = (i + 2 : Nat) := by rw [wrap_id (by omega) (by omega)]; omega
    have w3 : wrap64 ((i : Int) + 3) = (i + 3 : Nat) := by rw [wrap_id (by omega) (by omega)]; omega
    have w4 : wrap64 ((i : Int) + 4) = (i + 4 : Nat) := by rw [wrap_id (by omega) (by omega)]; omega
    have w5 : wrap64 ((i : Int) + 5) = (i + 5 : Nat) := by rw [wrap_id (by omega) (by omega)]; omega
    have b0 := h.bt i 0 (by omega)
    have b1 := h.bt ((i + 1 : Nat) : Int) 1 (by omega)
    have b2 := h.bt ((i + 2 : Nat) : Int) 2 (by omega)
    have b3 := h.bt ((i + 3 : Nat) : Int) 3 (by omega)
    have b4 := h.bt ((i + 4 : Nat) : Int) 4 (by omega)
    simp only [spec_tmEnd.f, w1, w2, w3, w4, w5, h.size, b0, b1, b2, b3, b4, at_cons_zero, at_cons_succ, name_f, Option.bind_some, List.length_cons, List.length_nil]
    rw [if_neg (by omega), if_pos (by omega), if_pos (by omega)]
    rw [if_neg (by decide), if_neg (by decide), if_neg (by decide), if_neg (by decide), if_pos (by rfl), if_pos (by omega), if_pos (by omega), if_pos (by omega)]
    by_cases hx : nameB x = true
    · rw [if_pos hx, if_pos (by omega), if_pos (by omega)]; simp only [e61]
      by_cases hy : y = 61
      · rw [if_pos hy, if_pos (by omega), if_pos (by omega)]
        by_cases hz : nameB z = true
        · rw [if_pos hz, if_pos (by omega), if_neg (by rw [e93]; rintro rfl; subst hy; rcases hne x z l rfl with h | h <;> simp_all)]
        · rw [if_neg hz]
      · rw [if_neg hy]
    · rw [if_neg hx]
theorem end_name {a x y : UInt8} (h : At s i (a :: x :: y :: 46 :: l)) (ha : nameB a = true) (hx : x = 33 ∨ x = 63) (hy : nameB y = true) : spec_tmEnd.f (k + 1) (B s) i = spec_tmEnd.f k (B s) (i + 4 : Nat) := by
  obtain ⟨n1, n2, n3, n4, n5, n6⟩ := name_ne ha
  have hn := h.len
  simp only [List.length_cons, List.length_append, List.length_nil] at hn
  have w1 : wrap64 ((i : Int) + 1) = (i + 1 : Nat) := by rw [wrap_id (by omega) (by omega)]; omega
  have w2 : wrap64 ((i : Int) + 2) = (i + 2 : Nat) := by rw [wrap_id (by omega) (by omega)]; omega
  have w3 : wrap64 ((i : Int) + 3) = (i + 3 : Nat) := by rw [wrap_id (by omega) (by omega)]; omega
  have w4 : wrap64 ((i : Int) + 4) = (i + 4 : Nat) := by rw [wrap_id (by omega) (by omega)]; omega
  have w5 : wrap64 ((i : Int) + 5) = (i + 5 : Nat) := by rw [wrap_id (by omega) (by omega)]; omega
  have b0 := h.bt i 0 (by omega)
  have b1 := h.bt ((i + 1 : Nat) : Int) 1 (by omega)
  have b2 := h.bt ((i + 2 : Nat) : Int) 2 (by omega)
  have b3 := h.bt ((i + 3 : Nat) : Int) 3 (by omega)
  have b4 := h.bt ((i + 4 : Nat) : Int) 4 (by omega)
  simp only [spec_tmEnd.f, w1, w2, w3, w4, w5, h.size, b0, b1, b2, b3, b4, at_cons_zero, at_cons_succ, name_f, Option.bind_some, List.length_cons, List.length_nil]
  rw [if_neg (by omega), if_pos (by omega), if_pos (by omega)]
  simp only [e48, e42, e126, e35, e91, e40, n1, n2, n3, n4, n5, n6, if_false, ha, if_true]
  rw [if_pos (by omega), if_pos (by omega), if_pos (by omega)]
  rcases hx with rfl | rfl
  · rw [if_pos (by rfl), if_pos (by omega), if_pos (by omega), if_pos hy, if_pos (by omega), if_pos (by rfl), bind_id]
  · rw [if_neg (by decide), if_pos (by rfl), if_pos (by omega), if_pos (by omega), if_pos hy, if_pos (by omega), if_pos (by rfl), bind_id]
theorem end_name0 {a : UInt8} (h : At s i (a :: l)) (n1 : a ≠ 48) (n2 : a ≠ 126) (n3 : a ≠ 35) (n4 : a ≠ 91) (n5 : a ≠ 42) (n6 : a ≠ 40)
    (hne : ∀ x y l', l = x :: y :: 46 :: l' → nameB a = false ∨ (x ≠ 33 ∧ x ≠ 63) ∨ nameB y = false) : spec_tmEnd.f (k + 1) (B s) i = some (-1) := by
  match l, hne, h with
  | [], hne, h =>
    have hn := h.len
    simp only [List.length_cons, List.length_append, List.length_nil] at hn
    have w1 : wrap64 ((i : Int) + 1) = (i + 1 : Nat) := by rw [wrap_id (by omega) (by omega)]; omega
    have w2 : wrap64 ((i : Int) + 2) = (i + 2 : Nat) := by rw [wrap_id (by omega) (by omega)]; omega
    have w3 : wrap64 ((i : Int) + 3) = (i + 3 : Nat) := by rw [wrap_id (by omega) (by omega)]; omega
    have w4 : wrap64 ((i : Int) + 4) = (i + 4 : Nat) := by rw [wrap_id (by omega) (by omega)]; omega
    have w5 : wrap64 ((i : Int) + 5) = (i + 5 : Nat) := by rw [wrap_id (by omega) (by omega)]; omega
    have b0 := h.bt i 0 (by omega)
    have b1 := h.bt ((i + 1 : Nat) : Int) 1 (by omega)
    have b2 := h.bt ((i + 2 : Nat) : Int) 2 (by omega)
    have b3 := h.bt ((i + 3 : Nat) : Int) 3 (by omega)
    have b4 := h.bt ((i + 4 : Nat) : Int) 4 (by omega)
    simp only [spec_tmEnd.f, w1, w2, w3, w4, w5, h.size, b0, b1, b2, b3, b4, at_cons_zero, at_cons_succ, name_f, Option.bind_some, List.length_cons, List.length_nil]
    rw [if_neg (by omega), if_pos (by omega), if_pos (by omega)]
    simp only [e48, e42, e126, e35, e91, e40, n1, n2, n3, n4, n5, n6, if_false]
    rw [if_neg (c := ((i + 3 : Nat) : Int) < _) (by omega)]; split <;> rfl
  | [x], hne, h =>
    have hn := h.len
    simp only [List.length_cons, List.length_append, List.length_nil] at hn
    have w1 : wrap64 ((i : Int) + 1) = (i + 1 : Nat) := by rw [wrap_id (by omega) (by omega)]; omega
    have w2 : wrap64 ((i : Int) + 2) = (i + 2 : Nat) := by rw [wrap_id (by omega) (by omega)]; omega
    have w3 : wrap64 ((i : Int) + 3) = (i + 3 : Nat) := by rw [wrap_id (by omega) (by omega)]; omega
    have w4 : wrap64 ((i : Int) + 4) = (i + 4 : Nat) := by rw [wrap_id (by omega) (by omega)]; omega
    have w5 : wrap64 ((i : Int) + 5) = (i + 5 : Nat) := by rw [wrap_id (by omega) (by omega)]; omega
    have b0 := h.bt i 0 (by omega)
    have b1 := h.bt ((i + 1 : Nat) : Int) 1 (by omega)
    have b2 := h.bt ((i + 2 : Nat) : Int) 2 (by omega)
    have b3 := h.bt ((i + 3 : Nat) : Int) 3 (by omega)
    have b4 := h.bt ((i + 4 : Nat) : Int) 4 (by omega)
    simp only [spec_tmEnd.f, w1, w2, w3, w4, w5, h.size, b0, b1, b2, b3, b4, at_cons_zero, at_cons_succ, name_f, Option.bind_some, List.length_cons, List.length_nil]
    rw [if_neg (by omega), if_pos (by omega), if_pos (by omega)]
    simp only [e48, e42, e126, e35, e91, e40, n1, n2, n3, n4, n5, n6, if_false]
    rw [if_neg (c := ((i + 3 : Nat) : Int) < _) (by omega)]; split <;> rfl
  | [x, y], hne, h =>
    have hn := h.len
    simp only [List.length_cons, List.length_append, List.length_nil] at hn
    have w1 : wrap64 ((i : Int) + 1) = (i + 1 : Nat) := by rw [wrap_id (by omega) (by omega)]; omega
    have w2 : wrap64 ((i : Int) + 2) = (i + 2 : Nat) := by rw [wrap_id (by omega) (by omega)]; omega
    have w3 : wrap64 ((i : Int) + 3) = (i + 3 : Nat) := by rw [wrap_id (by omega) (by omega)]; omega
    have w4 : wrap64 ((i : Int) + 4) = (i + 4 : Nat) := by rw [wrap_id (by omega) (by omega)]; omega
    have w5 : wrap64 ((i : Int) + 5) = (i + 5 : Nat) := by rw [wrap_id (by omega) (by omega)]; omega
    have b0 := h.bt i 0 (by omega)
    have b1 := h.bt ((i + 1 : Nat) : Int) 1 (by omega)
    have b2 := h.bt ((i + 2 : Nat) : Int) 2 (by omega)
    have b3 := h.bt ((i + 3 : Nat) : Int) 3 (by omega)
    have b4 := h.bt ((i + 4 : Nat) : Int) 4 (by omega)
    simp only [spec_tmEnd.f, w1, w2, w3, w4, w5, h.size, b0, b1, b2, b3, b4, at_cons_zero, at_cons_succ, name_f, Option.bind_some, List.length_cons, List.length_nil]
    rw [if_neg (by omega), if_pos (by omega), if_pos (by omega)]
    simp only [e48, e42, e126, e35, e91, e40, n1, n2, n3, n4, n5, n6, if_false]
    rw [if_neg (c := ((i + 3 : Nat) : Int) < _) (by omega)]; split <;> rfl
  | x :: y :: z :: l, hne, h =>
    have hn := h.len
    simp only [List.length_cons, List.length_append, List.length_nil] at hn
    have w1 : wrap64 ((i : Int) + 1) = (i + 1 : Nat) := by rw [wrap_id (by omega) (by omega)]; omega
    have w2 : wrap64 ((i : Int) + 2) = (i + 2 : Nat) := by rw [wrap_id (by omega) (by omega)]; omega
    have w3 : wrap64 ((i : Int) + 3) = (i + 3 : Nat) := by rw [wrap_id (by omega) (by omega)]; omega
    have w4 : wrap64 ((i : Int) + 4) = (i + 4 : Nat) := by rw [wrap_id (by omega) (by omega)]; omega
    have w5 : wrap64 ((i : Int) + 5) = (i + 5 : Nat) := by rw [wrap_id (by omega) (by omega)]; omega
    have b0 := h.bt i 0 (by omega)
    have b1 := h.bt ((i + 1 : Nat) : Int) 1 (by omega)
    have b2 := h.bt ((i + 2 : Nat) : Int) 2 (by omega)
    have b3 := h.bt ((i + 3 : Nat) : Int) 3 (by omega)
    have b4 := h.bt ((i + 4 : Nat) : Int) 4 (by omega)
    simp only [spec_tmEnd.f, w1, w2, w3, w4, w5, h.size, b0, b1, b2, b3, b4, at_cons_zero, at_cons_succ, name_f, Option.bind_some, List.length_cons, List.length_nil]
    rw [if_neg (by omega), if_pos (by omega), if_pos (by omega)]
    simp only [e48, e42, e126, e35, e91, e40, n1, n2, n3, n4, n5, n6, if_false]
    by_cases ha : nameB a = true
    · rw [if_pos ha, if_pos (by omega), if_pos (by omega), if_pos (by omega)]; simp only [e33, e63]
      have key : (if nameB y = true then (if 0 ≤ ((i + 3 : Nat) : Int) then (if vl z = 46 then ((spec_tmEnd.f k (B s) ((i + 4 : Nat) : Int)).bind fun t112 => (some t112)) else (some (-1))) else none) else some (-1)) = some (-1) ∨ (x ≠ 33 ∧ x ≠ 63) := by
        by_cases hx : x ≠ 33 ∧ x ≠ 63
        · exact .inr hx
        left
        by_cases hy : nameB y = true
        · rw [if_pos hy, if_pos (by omega), if_neg (by rw [e46]; rintro rfl; rcases hne x y l rfl with h | h | h <;> simp_all)]
        · rw [if_neg hy]
      rcases key with key | ⟨k1, k2⟩
      · by_cases hx : x = 33
        · rw [if_pos hx, if_pos (by omega), if_pos (by omega)]; exact key
        · rw [if_neg hx]
          by_cases hx2 : x = 63
          · rw [if_pos hx2, if_pos (by omega), if_pos (by omega)]; exact key
          · rw [if_neg hx2]
      · rw [if_neg k1, if_neg k2]
    · rw [if_neg ha]
end

end Go.Proofs.Ytjinjanjjecmiaa.PReadCell
