/- Several texts in one.
   The reference's functions on texts, at the text of a term: end, kind, head, parts, size; and what is a process.
   Where the reference finds an end, a term's text stands, and the other way round; kind, head, parts and size at a term's text; what is a process.
   The reference's processes are those that the program reads. -/
import Derived.Test.YtjgfgjhaghbehaaGreatPsoPlacex
import Derived.Test.YtjgfgjhaghbehaaGreatBase
namespace Go.Proofs.YtjgfgjhaghbehaaGreat.PsoPlace
open Go.RowKit Go.Proofs.YtjgfgjhaghbehaaGreatW.PrintWords Go.Proofs.YtjgfgjhaghbehaaGreatW.PrintLast Go.Proofs.YtjgfgjhaghbehaaGreatW.PrintMore
set_option linter.unusedVariables false
set_option linter.unusedSimpArgs false

def nameB (c : UInt8) : Bool := decide (97 ≤ vl c ∧ vl c ≤ 122 ∨ 65 ≤ vl c ∧ vl c ≤ 90 ∨ 128 ≤ vl c)
theorem name_f (c : UInt8) : spec_tmName.f (vl c) = some (nameB c) := by
  unfold spec_tmName.f nameB
  by_cases h1 : 97 ≤ vl c <;> by_cases h2 : vl c ≤ 122 <;> by_cases h3 : 65 ≤ vl c <;> by_cases h4 : vl c ≤ 90 <;> by_cases h5 : 128 ≤ vl c <;> simp [h1, h2, h3, h4, h5]
theorem let_name {c : UInt8} (h : isLet c = true) : nameB c = true := by
  simp [isLet] at h; simp [nameB, h]
theorem name_ne {c : UInt8} (h : nameB c = true) : c ≠ 48 ∧ c ≠ 126 ∧ c ≠ 35 ∧ c ≠ 91 ∧ c ≠ 42 ∧ c ≠ 40 := by
  refine ⟨?_, ?_, ?_, ?_, ?_, ?_⟩ <;> (rintro rfl; exact absurd h (by decide))
theorem Wf.names {P Q : UInt8 → Bool} (hPQ : ∀ c, P c = true → Q c = true) : ∀ {t : Tm}, Wf P t → Wf Q t
  | .leaf _ _ _, h => h
  | .un _ _ _ _, ⟨h, hw⟩ => ⟨h.imp (fun ⟨a, b, c⟩ => ⟨a, hPQ _ b, hPQ _ c⟩) (fun h => h.imp (fun ⟨a, b, c⟩ => ⟨a, b, hPQ _ c⟩) id), Wf.names hPQ hw⟩
  | .bin _ _ _ _ _, ⟨h1, h2, h3, h4, h5⟩ => ⟨h1, h2, h3, Wf.names hPQ h4, Wf.names hPQ h5⟩

theorem e33 (c : UInt8) : (vl c = 33) = (c = 33) := propext (vl_inj (c := 33))
theorem e35 (c : UInt8) : (vl c = 35) = (c = 35) := propext (vl_inj (c := 35))
theorem e38 (c : UInt8) : (vl c = 38) = (c = 38) := propext (vl_inj (c := 38))
theorem e40 (c : UInt8) : (vl c = 40) = (c = 40) := propext (vl_inj (c := 40))
theorem e41 (c : UInt8) : (vl c = 41) = (c = 41) := propext (vl_inj (c := 41))
theorem e42 (c : UInt8) : (vl c = 42) = (c = 42) := propext (vl_inj (c := 42))
theorem e43 (c : UInt8) : (vl c = 43) = (c = 43) := propext (vl_inj (c := 43))
theorem e46 (c : UInt8) : (vl c = 46) = (c = 46) := propext (vl_inj (c := 46))
theorem e48 (c : UInt8) : (vl c = 48) = (c = 48) := propext (vl_inj (c := 48))
theorem e61 (c : UInt8) : (vl c = 61) = (c = 61) := propext (vl_inj (c := 61))
theorem e63 (c : UInt8) : (vl c = 63) = (c = 63) := propext (vl_inj (c := 63))
theorem e91 (c : UInt8) : (vl c = 91) = (c = 91) := propext (vl_inj (c := 91))
theorem e93 (c : UInt8) : (vl c = 93) = (c = 93) := propext (vl_inj (c := 93))
theorem e126 (c : UInt8) : (vl c = 126) = (c = 126) := propext (vl_inj (c := 126))

theorem bind_id {α : Type} (x : Option α) : (x.bind fun t => some t) = x := by cases x <;> rfl

theorem end_nil {s : List UInt8} {i : Nat} (k : Nat) (h : At s i []) : spec_tmEnd.f (k + 1) (B s) i = some (-1) := by
  unfold spec_tmEnd.f
  rw [h.size, if_pos (by simp)]
section
variable {s : List UInt8} {i : Nat} {l : List UInt8} (k : Nat) (hs : s.length ≤ 1000000)
include hs
theorem end_zero (h : At s i (48 :: l)) : spec_tmEnd.f (k + 1) (B s) i = some ((i + 1 : Nat) : Int) := by
  have hn := h.len
  simp only [List.length_cons, List.length_append, List.length_nil] at hn
  have w1 : wrap64 ((i : Int) + 1) = (i + 1 : Nat) := by rw [wrap_id (by omega) (by omega)]; omega
  have w2 : wrap64 ((i : Int) + 2) = (i + 2 : Nat) := by rw [wrap_id (by omega) (by omega)]; omega
  have w3 : wrap64 ((i : Int) + 3) = (i + 3 : Nat) := by rw [wrap_id (by omega) (by omega)]; omega
  have w4 : wrap64 ((i : Int) + 4) = (i + 4 : Nat) := by rw [wrap_id (by omega) (by omega)]; omega
  have w5 : wrap64 ((i : Int) + 5) = (i + 5 : Nat) := by rw [wrap_id (by omega) (by omega)]; omega
  have b0 := h.bt i 0 (by omega)
  have b1 := h.bt ((i + 1 : Nat) : Int) 1 (by omega)
  have b2 := h.bt ((i + 2 : Nat) : Int) 2 (by omega)
  have b3 := h.bt ((i + 3 : Nat) : Int) 3 (by omega)
  have b4 := h.bt ((i + 4 : Nat) : Int) 4 (by omega)
  simp only [spec_tmEnd.f, w1, w2, w3, w4, w5, h.size, b0, b1, b2, b3, b4, at_cons_zero, at_cons_succ, name_f, Option.bind_some, List.length_cons, List.length_nil]
  rw [if_neg (by omega), if_pos (by omega), if_pos (by omega)]
  rw [if_pos (by rfl)]
theorem end_star (h : At s i (42 :: l)) : spec_tmEnd.f (k + 1) (B s) i = spec_tmEnd.f k (B s) (i + 1 : Nat) := by
  have hn := h.len
  simp only [List.length_cons, List.length_append, List.length_nil] at hn
  have w1 : wrap64 ((i : Int) + 1) = (i + 1 : Nat) := by rw [wrap_id (by omega) (by omega)]; omega
  have w2 : wrap64 ((i : Int) + 2) = (i + 2 : Nat) := by rw [wrap_id (by omega) (by omega)]; omega
  have w3 : wrap64 ((i : Int) + 3) = (i + 3 : Nat) := by rw [wrap_id (by omega) (by omega)]; omega
  have w4 : wrap64 ((i : Int) + 4) = (i + 4 : Nat) := by rw [wrap_id (by omega) (by omega)]; omega
  have w5 : wrap64 ((i : Int) + 5) = (i + 5 : Nat) := by rw [wrap_id (by omega) (by omega)]; omega
  have b0 := h.bt i 0 (by omega)
  have b1 := h.bt ((i + 1 : Nat) : Int) 1 (by omega)
  have b2 := h.bt ((i + 2 : Nat) : Int) 2 (by omega)
  have b3 := h.bt ((i + 3 : Nat) : Int) 3 (by omega)
  have b4 := h.bt ((i + 4 : Nat) : Int) 4 (by omega)
  simp only [spec_tmEnd.f, w1, w2, w3, w4, w5, h.size, b0, b1, b2, b3, b4, at_cons_zero, at_cons_succ, name_f, Option.bind_some, List.length_cons, List.length_nil]
  rw [if_neg (by omega), if_pos (by omega), if_pos (by omega)]
  rw [if_neg (by decide), if_pos (by rfl), bind_id]
theorem end_tilde (h : At s i (126 :: 46 :: l)) : spec_tmEnd.f (k + 1) (B s) i = spec_tmEnd.f k (B s) (i + 2 : Nat) := by
  have hn := h.len
  simp only [List.length_cons, List.length_append, List.length_nil] at hn
  have w1 : wrap64 ((i : Int) + 1) = (i + 1 : Nat) := by rw [wrap_id (by omega) (by omega)]; omega
  have w2 : wrap64 ((i : Int) + 2) = (i + 2 : Nat) := by rw [wrap_id (by omega) (by omega)]; omega
  have w3 : wrap64 ((i : Int) + 3) = (i + 3 : Nat) := by rw [wrap_id (by omega) (by omega)]; omega
  have w4 : wrap64 ((i : Int) + 4) = (i + 4 : Nat) := by rw [wrap_id (by omega) (by omega)]; omega
  have w5 : wrap64 ((i : Int) + 5) = (i + 5 : Nat) := by rw [wrap_id (by omega) (by omega)]; omega
  have b0 := h.bt i 0 (by omega)
  have b1 := h.bt ((i + 1 : Nat) : Int) 1 (by omega)
  have b2 := h.bt ((i + 2 : Nat) : Int) 2 (by omega)
  have b3 := h.bt ((i + 3 : Nat) : Int) 3 (by omega)
  have b4 := h.bt ((i + 4 : Nat) : Int) 4 (by omega)
  simp only [spec_tmEnd.f, w1, w2, w3, w4, w5, h.size, b0, b1, b2, b3, b4, at_cons_zero, at_cons_succ, name_f, Option.bind_some, List.length_cons, List.length_nil]
  rw [if_neg (by omega), if_pos (by omega), if_pos (by omega)]
  rw [if_neg (by decide), if_neg (by decide), if_pos (by rfl), if_pos (by omega), if_pos (by omega), if_pos (by rfl), bind_id]
theorem end_tilde0 (h : At s i (126 :: l)) (hne : ∀ l', l ≠ 46 :: l') : spec_tmEnd.f (k + 1) (B s) i = some (-1) := by
  cases l with
  | nil =>
    have hn := h.len
    simp only [List.length_cons, List.length_append, List.length_nil] at hn
    have w1 : wrap64 ((i : Int) + 1) = (i + 1 : Nat) := by rw [wrap_id (by omega) (by omega)]; omega
    have w2 : wrap64 ((i : Int) + 2) = (i + 2 : Nat) := by rw [wrap_id (by omega) (by omega)]; omega
    have w3 : wrap64 ((i : Int) + 3) = (i + 3 : Nat) := by rw [wrap_id (by omega) (by omega)]; omega
    have w4 : wrap64 ((i : Int) + 4) = (i + 4 : Nat) := by rw [wrap_id (by omega) (by omega)]; omega
    have w5 : wrap64 ((i : Int) + 5) = (i + 5 : Nat) := by rw [wrap_id (by omega) (by omega)]; omega
    have b0 := h.bt i 0 (by omega)
    have b1 := h.bt ((i + 1 : Nat) : Int) 1 (by omega)
    have b2 := h.bt ((i + 2 : Nat) : Int) 2 (by omega)
    have b3 := h.bt ((i + 3 : Nat) : Int) 3 (by omega)
    have b4 := h.bt ((i + 4 : Nat) : Int) 4 (by omega)
    simp only [spec_tmEnd.f, w1, w2, w3, w4, w5, h.size, b0, b1, b2, b3, b4, at_cons_zero, at_cons_succ, name_f, Option.bind_some, List.length_cons, List.length_nil]
    rw [if_neg (by omega), if_pos (by omega), if_pos (by omega)]
    rw [if_neg (by decide), if_neg (by decide), if_pos (by rfl), if_neg (by omega)]
  | cons c l =>
    have hn := h.len
    simp only [List.length_cons, List.length_append, List.length_nil] at hn
    have w1 : wrap64 ((i : Int) + 1) = (i + 1 : Nat) := by rw [wrap_id (by omega) (by omega)]; omega
    have w2 : wrap64 ((i : Int) + 2) = (i + 2 : Nat) := by rw [wrap_id (by omega) (by omega)]; omega
    have w3 : wrap64 ((i : Int) + 3) = (i + 3 : Nat) := by rw [wrap_id (by omega) (by omega)]; omega
    have w4 : wrap64 ((i : Int) + 4) = (i + 4 : Nat) := by rw [wrap_id (by omega) (by omega)]; omega
    have w5 : wrap64 ((i : Int) + 5) = (i + 5 : Nat) := by rw [wrap_id (by omega) (by omega)]; omega
    have b0 := h.bt i 0 (by omega)
    have b1 := h.bt ((i + 1 : Nat) : Int) 1 (by omega)
    have b2 := h.bt ((i + 2 : Nat) : Int) 2 (by omega)
    have b3 := h.bt ((i + 3 : Nat) : Int) 3 (by omega)
    have b4 := h.bt ((i + 4 : Nat) : Int) 4 (by omega)
    simp only [spec_tmEnd.f, w1, w2, w3, w4, w5, h.size, b0, b1, b2, b3, b4, at_cons_zero, at_cons_succ, name_f, Option.bind_some, List.length_cons, List.length_nil]
    rw [if_neg (by omega), if_pos (by omega), if_pos (by omega)]
    rw [if_neg (by decide), if_neg (by decide), if_pos (by rfl), if_pos (by omega), if_pos (by omega), if_neg (by rw [e46]; rintro rfl; exact hne l rfl)]
theorem end_hash {x : UInt8} (h : At s i (35 :: x :: 46 :: l)) (hx : nameB x = true) : spec_tmEnd.f (k + 1) (B s) i = spec_tmEnd.f k (B s) (i + 3 : Nat) := by
  have hn := h.len
  simp only [List.length_cons, List.length_append, List.length_nil] at hn
  have w1 : wrap64 ((i : Int) + 1) = (i + 1 : Nat) := by rw [wrap_id (by omega) (by omega)]; omega
  have w2 : wrap64 ((i : Int) + 2) = (i + 2 : Nat) := by rw [wrap_id (by omega) (by omega)]; omega
  have w3 : wrap64 ((i : Int) + 3) = (i + 3 : Nat) := by rw [wrap_id (by omega) (by omega)]; omega
  have w4 : wrap64 ((i : Int) + 4) = (i + 4 : Nat) := by rw [wrap_id (by omega) (by omega)]; omega
  have w5 : wrap64 ((i : Int) + 5) = (i + 5 : Nat) := by rw [wrap_id (by omega) (by omega)]; omega
  have b0 := h.bt i 0 (by omega)
  have b1 := h.bt ((i + 1 : Nat) : Int) 1 (by omega)
  have b2 := h.bt ((i + 2 : Nat) : Int) 2 (by omega)
  have b3 := h.bt ((i + 3 : Nat) : Int) 3 (by omega)
  have b4 := h.bt ((i + 4 : Nat) : Int) 4 (by omega)
  simp only [spec_tmEnd.f, w1, w2, w3, w4, w5, h.size, b0, b1, b2, b3, b4, at_cons_zero, at_cons_succ, name_f, Option.bind_some, List.length_cons, List.length_nil]
  rw [if_neg (by omega), if_pos (by omega), if_pos (by omega)]
  rw [if_neg (by decide), if_neg (by decide), if_neg (by decide), if_pos (by rfl), if_pos (by omega), if_pos (by omega), if_pos (by omega), if_pos hx, if_pos (by omega), if_pos (by rfl), bind_id]
theorem end_hash0 (h : At s i (35 :: l)) (hne : ∀ x l', l = x :: 46 :: l' → nameB x = false) : spec_tmEnd.f (k + 1) (B s) i = some (-1) := by
  match l, hne, h with
  | [], hne, h =>
    have hn := h.len
    simp only [List.length_cons, List.length_append, List.length_nil] at hn
    have w1 : wrap64 ((i : Int) + 1) = (i + 1 : Nat) := by rw [wrap_id (by omega) (by omega)]; omega
    have w2 : wrap64 ((i : Int) + 2) = (i + 2 : Nat) := by rw [wrap_id (by omega) (by omega)]; omega
    have w3 : wrap64 ((i : Int) + 3) = (i + 3 : Nat) := by rw [wrap_id (by omega) (by omega)]; omega
    have w4 : wrap64 ((i : Int) + 4) = (i + 4 : Nat) := by rw [wrap_id (by omega) (by omega)]; omega
    have w5 : wrap64 ((i : Int) + 5) = (i + 5 : Nat) := by rw [wrap_id (by omega) (by omega)]; omega
    have b0 := h.bt i 0 (by omega)
    have b1 := h.bt ((i + 1 : Nat) : Int) 1 (by omega)
    have b2 := h.bt ((i + 2 : Nat) : Int) 2 (by omega)
    have b3 := h.bt ((i + 3 : Nat) : Int) 3 (by omega)
    have b4 := h.bt ((i + 4 : Nat) : Int) 4 (by omega)
    simp only [spec_tmEnd.f, w1, w2, w3, w4, w5, h.size, b0, b1, b2, b3, b4, at_cons_zero, at_cons_succ, name_f, Option.bind_some, List.length_cons, List.length_nil]
    rw [if_neg (by omega), if_pos (by omega), if_pos (by omega)]
    rw [if_neg (by decide), if_neg (by decide), if_neg (by decide), if_pos (by rfl), if_neg (by omega)]
  | [x], hne, h =>
    have hn := h.len
    simp only [List.length_cons, List.length_append, List.length_nil] at hn
    have w1 : wrap64 ((i : Int) + 1) = (i + 1 : Nat) := by rw [wrap_id (by omega) (by omega)]; omega
    have w2 : wrap64 ((i : Int) + 2) = (i + 2 : Nat) := by rw [wrap_id (by omega) (by omega)]; omega
    have w3 : wrap64 ((i : Int) + 3) = (i + 3 : Nat) := by rw [wrap_id (by omega) (by omega)]; omega
    have w4 : wrap64 ((i : Int) + 4) = (i + 4 : Nat) := by rw [wrap_id (by omega) (by omega)]; omega
    have w5 : wrap64 ((i : Int) + 5) = (i + 5 : Nat) := by rw [wrap_id (by omega) (by omega)]; omega
    have b0 := h.bt i 0 (by omega)
    have b1 := h.bt ((i + 1 : Nat) : Int) 1 (by omega)
    have b2 := h.bt ((i + 2 : Nat) : Int) 2 (by omega)
    have b3 := h.bt ((i + 3 : Nat) : Int) 3 (by omega)
    have b4 := h.bt ((i + 4 : Nat) : Int) 4 (by omega)
    simp only [spec_tmEnd.f, w1, w2, w3, w4, w5, h.size, b0, b1, b2, b3, b4, at_cons_zero, at_cons_succ, name_f, Option.bind_some, List.length_cons, List.length_nil]
    rw [if_neg (by omega), if_pos (by omega), if_pos (by omega)]
    rw [if_neg (by decide), if_neg (by decide), if_neg (by decide), if_pos (by rfl), if_neg (by omega)]
  | x :: y :: l, hne, h =>
    have hn := h.len
    simp only [List.length_cons, List.length_append, List.length_nil] at hn
    have w1 : wrap64 ((i : Int) + 1) = (i + 1 : Nat) := by rw [wrap_id (by omega) (by omega)]; omega
    have w2 : wrap64 ((i : Int) + 2) = (i + 2 : Nat) := by rw [wrap_id (by omega) (by omega)]; omega
    have w3 : wrap64 ((i : Int) + 3) = (i + 3 : Nat) := by rw [wrap_id (by omega) (by omega)]; omega
    have w4 : wrap64 ((i : Int) + 4) = (i + 4 : Nat) := by rw [wrap_id (by omega) (by omega)]; omega
    have w5 : wrap64 ((i : Int) + 5) = (i + 5 : Nat) := by rw [wrap_id (by omega) (by omega)]; omega
    have b0 := h.bt i 0 (by omega)
    have b1 := h.bt ((i + 1 : Nat) : Int) 1 (by omega)
    have b2 := h.bt ((i + 2 : Nat) : Int) 2 (by omega)
    have b3 := h.bt ((i + 3 : Nat) : Int) 3 (by omega)
    have b4 := h.bt ((i + 4 : Nat) : Int) 4 (by omega)
    simp only [spec_tmEnd.f, w1, w2, w3, w4, w5, h.size, b0, b1, b2, b3, b4, at_cons_zero, at_cons_succ, name_f, Option.bind_some, List.length_cons, List.length_nil]
    rw [if_neg (by omega), if_pos (by omega), if_pos (by omega)]
    rw [if_neg (by decide), if_neg (by decide), if_neg (by decide), if_pos (by rfl), if_pos (by omega), if_pos (by omega), if_pos (by omega)]
    by_cases hx : nameB x = true
    · rw [if_pos hx, if_pos (by omega), if_neg (by rw [e46]; rintro rfl; rw [hne x l rfl] at hx; cases hx)]
    · rw [if_neg hx]
theorem end_match {x y : UInt8} (h : At s i (91 :: x :: 61 :: y :: 93 :: l)) (hx : nameB x = true) (hy : nameB y = true) : spec_tmEnd.f (k + 1) (B s) i = spec_tmEnd.f k (B s) (i + 5 : Nat) := by
  have hn := h.len
  simp only [List.length_cons, List.length_append, List.length_nil] at hn
  have w1 : wrap64 ((i : Int) + 1) = (i + 1 : Nat) := by rw [wrap_id (by omega) (by omega)]; omega
  have w2 : wrap64 ((i : Int) + 2) = (i + 2 : Nat) := by rw [wrap_id (by omega) (by omega)]; omega
  have w3 : wrap64 ((i : Int) + 3) = (i + 3 : Nat) := by rw [wrap_id (by omega) (by omega)]; omega
  have w4 : wrap64 ((i : Int) + 4) = (i + 4 : Nat) := by rw [wrap_id (by omega) (by omega)]; omega
  have w5 : wrap64 ((i : Int) + 5) = (i + 5 : Nat) := by rw [wrap_id (by omega) (by omega)]; omega
  have b0 := h.bt i 0 (by omega)
  have b1 := h.bt ((i + 1 : Nat) : Int) 1 (by omega)
  have b2 := h.bt ((i + 2 : Nat) : Int) 2 (by omega)
  have b3 := h.bt ((i + 3 : Nat) : Int) 3 (by omega)
  have b4 := h.bt ((i + 4 : Nat) : Int) 4 (by omega)
  simp only [spec_tmEnd.f, w1, w2, w3, w4, w5, h.size, b0, b1, b2, b3, b4, at_cons_zero, at_cons_succ, name_f, Option.bind_some, List.length_cons, List.length_nil]
  rw [if_neg (by omega), if_pos (by omega), if_pos (by omega)]
  rw [if_neg (by decide), if_neg (by decide), if_neg (by decide), if_neg (by decide), if_pos (by rfl), if_pos (by omega), if_pos (by omega), if_pos (by omega), if_pos hx, if_pos (by omega), if_pos (by omega), if_pos (by rfl),
    if_pos (by omega), if_pos (by omega), if_pos hy, if_pos (by omega), if_pos (by rfl), bind_id]
theorem end_match0 (h : At s i (91 :: l)) (hne : ∀ x y l', l = x :: 61 :: y :: 93 :: l' → nameB x = false ∨ nameB y = false) : spec_tmEnd.f (k + 1) (B s) i = some (-1) := by
  match l, hne, h with
  | [], hne, h =>
    have hn := h.len
    simp only [List.length_cons, List.length_append, List.length_nil] at hn
    have w1 : wrap64 ((i : Int) + 1) = (i + 1 : Nat) := by rw [wrap_id (by omega) (by omega)]; omega
    have w2 : wrap64 ((i : Int) + 2) = (i + 2 : Nat) := by rw [wrap_id (by omega) (by omega)]; omega
    have w3 : wrap64 ((i : Int) + 3) = (i + 3 : Nat) := by rw [wrap_id (by omega) (by omega)]; omega
    have w4 : wrap64 ((i : Int) + 4) = (i + 4 : Nat) := by rw [wrap_id (by omega) (by omega)]; omega
    have w5 : wrap64 ((i : Int) + 5) = (i + 5 : Nat) := by rw [wrap_id (by omega) (by omega)]; omega
    have b0 := h.bt i 0 (by omega)
    have b1 := h.bt ((i + 1 : Nat) : Int) 1 (by omega)
    have b2 := h.bt ((i + 2 : Nat) : Int) 2 (by omega)
    have b3 := h.bt ((i + 3 : Nat) : Int) 3 (by omega)
    have b4 := h.bt ((i + 4 : Nat) : Int) 4 (by omega)
    simp only [spec_tmEnd.f, w1, w2, w3, w4, w5, h.size, b0, b1, b2, b3, b4, at_cons_zero, at_cons_succ, name_f, Option.bind_some, List.length_cons, List.length_nil]
    rw [if_neg (by omega), if_pos (by omega), if_pos (by omega)]
    rw [if_neg (by decide), if_neg (by decide), if_neg (by decide), if_neg (by decide), if_pos (by rfl), if_neg (by omega)]
  | [x], hne, h =>
    have hn := h.len
    simp only [List.length_cons, List.length_append, List.length_nil] at hn
    have w1 : wrap64 ((i : Int) + 1) = (i + 1 : Nat) := by rw [wrap_id (by omega) (by omega)]; omega
    have w2 : wrap64 ((i : Int) + 2) = (i + 2 : Nat) := by rw [wrap_id (by omega) (by omega)]; omega
    have w3 : wrap64 ((i : Int) + 3) = (i + 3 : Nat) := by rw [wrap_id (by omega) (by omega)]; omega
    have w4 : wrap64 ((i : Int) + 4) = (i + 4 : Nat) := by rw [wrap_id (by omega) (by omega)]; omega
    have w5 : wrap64 ((i : Int) + 5) = (i + 5 : Nat) := by rw [wrap_id (by omega) (by omega)]; omega
    have b0 := h.bt i 0 (by omega)
    have b1 := h.bt ((i + 1 : Nat) : Int) 1 (by omega)
    have b2 := h.bt ((i + 2 : Nat) : Int) 2 (by omega)
    have b3 := h.bt ((i + 3 : Nat) : Int) 3 (by omega)
    have b4 := h.bt ((i + 4 : Nat) : Int) 4 (by omega)
    simp only [spec_tmEnd.f, w1, w2, w3, w4, w5, h.size, b0, b1, b2, b3, b4, at_cons_zero, at_cons_succ, name_f, Option.bind_some, List.length_cons, List.length_nil]
    rw [if_neg (by omega), if_pos (by omega), if_pos (by omega)]
    rw [if_neg (by decide), if_neg (by decide), if_neg (by decide), if_neg (by decide), if_pos (by rfl), if_neg (by omega)]
  | [x, y], hne, h =>
    have hn := h.len
    simp only [List.length_cons, List.length_append, List.length_nil] at hn
    have w1 : wrap64 ((i : Int) + 1) = (i + 1 : Nat) := by rw [wrap_id (by omega) (by omega)]; omega
    have w2 : wrap64 ((i : Int) + 2) = (i + 2 : Nat) := by rw [wrap_id (by omega) (by omega)]; omega
    have w3 : wrap64 ((i : Int) + 3) = (i + 3 : Nat) := by rw [wrap_id (by omega) (by omega)]; omega
    have w4 : wrap64 ((i : Int) + 4) = (i + 4 : Nat) := by rw [wrap_id (by omega) (by omega)]; omega
    have w5 : wrap64 ((i : Int) + 5) = (i + 5 : Nat) := by rw [wrap_id (by omega) (by omega)]; omega
    have b0 := h.bt i 0 (by omega)
    have b1 := h.bt ((i + 1 : Nat) : Int) 1 (by omega)
    have b2 := h.bt ((i + 2 : Nat) : Int) 2 (by omega)
    have b3 := h.bt ((i + 3 : Nat) : Int) 3 (by omega)
    have b4 := h.bt ((i + 4 : Nat) : Int) 4 (by omega)
    simp only [spec_tmEnd.f, w1, w2, w3, w4, w5, h.size, b0, b1, b2, b3, b4, at_cons_zero, at_cons_succ, name_f, Option.bind_some, List.length_cons, List.length_nil]
    rw [if_neg (by omega), if_pos (by omega), if_pos (by omega)]
    rw [if_neg (by decide), if_neg (by decide), if_neg (by decide), if_neg (by decide), if_pos (by rfl), if_neg (by omega)]
  | [x, y, z], hne, h =>
    have hn := h.len
    simp only [List.length_cons, List.length_append, List.length_nil] at hn
    have w1 : wrap64 ((i : Int) + 1) = (i + 1 : Nat) := by rw [wrap_id (by omega) (by omega)]; omega
    have w2 : wrap64 ((i : Int) + 2) = (i + 2 : Nat) := by rw [wrap_id (by omega) (by omega)]; omega
    have w3 : wrap64 ((i : Int) + 3) = (i + 3 : Nat) := by rw [wrap_id (by omega) (by omega)]; omega
    have w4 : wrap64 ((i : Int) + 4) = (i + 4 : Nat) := by rw [wrap_id (by omega) (by omega)]; omega
    have w5 : wrap64 ((i : Int) + 5) = (i + 5 : Nat) := by rw [wrap_id (by omega) (by omega)]; omega
    have b0 := h.bt i 0 (by omega)
    have b1 := h.bt ((i + 1 : Nat) : Int) 1 (by omega)
    have b2 := h.bt ((i + 2 : Nat) : Int) 2 (by omega)
    have b3 := h.bt ((i + 3 : Nat) : Int) 3 (by omega)
    have b4 := h.bt ((i + 4 : Nat) : Int) 4 (by omega)
    simp only [spec_tmEnd.f, w1, w2, w3, w4, w5, h.size, b0, b1, b2, b3, b4, at_cons_zero, at_cons_succ, name_f, Option.bind_some, List.length_cons, List.length_nil]
    rw [if_neg (by omega), if_pos (by omega), if_pos (by omega)]
    rw [if_neg (by decide), if_neg (by decide), if_neg (by decide), if_neg (by decide), if_pos (by rfl), if_neg (by omega)]
  | x :: y :: z :: u :: l, hne, h =>
    have hn := h.len
    simp only [List.length_cons, List.length_append, List.length_nil] at hn
    have w1 : wrap64 ((i : Int) + 1) = (i + 1 : Nat) := by rw [wrap_id (by omega) (by omega)]; omega
    have w2 : wrap64 ((i : Int) + 2) = (i + 2 : Nat) := by rw [wrap_id (by omega) (by omega)]; omega
    have w3 : wrap64 ((i : Int) + 3) = (i + 3 : Nat) := by rw [wrap_id (by omega) (by omega)]; omega
    have w4 : wrap64 ((i : Int) + 4) = (i + 4 : Nat) := by rw [wrap_id (by omega) (by omega)]; omega
    have w5 : wrap64 ((i : Int) + 5) = (i + 5 : Nat) := by rw [wrap_id (by omega) (by omega)]; omega
    have b0 := h.bt i 0 (by omega)
    have b1 := h.bt ((i + 1 : Nat) : Int) 1 (by omega)
    have b2 := h.bt ((i + 2 : Nat) : Int) 2 (by omega)
    have b3 := h.bt ((i + 3 : Nat) : Int) 3 (by omega)
    have b4 := h.bt ((i + 4 : Nat) : Int) 4 (by omega)
    simp only [spec_tmEnd.f, w1, w2, w3, w4, w5, h.size, b0, b1, b2, b3, b4, at_cons_zero, at_cons_succ, name_f, Option.bind_some, List.length_cons, List.length_nil]
    rw [if_neg (by omega), if_pos (by omega), if_pos (by omega)]
    rw [if_neg (by decide), if_neg (by decide), if_neg (by decide), if_neg (by decide), if_pos (by rfl), if_pos (by omega), if_pos (by omega), if_pos (by omega)]
    by_cases hx : nameB x = true
    · rw [if_pos hx, if_pos (by omega), if_pos (by omega)]; simp only [e61]
      by_cases hy : y = 61
      · rw [if_pos hy, if_pos (by omega), if_pos (by omega)]
        by_cases hz : nameB z = true
        · rw [if_pos hz, if_pos (by omega), if_neg (by rw [e93]; rintro rfl; subst hy; rcases hne x z l rfl with h | h <;> simp_all)]
        · rw [if_neg hz]
      · rw [if_neg hy]
    · rw [if_neg hx]
theorem end_name {a x y : UInt8} (h : At s i (a :: x :: y :: 46 :: l)) (ha : nameB a = true) (hx : x = 33 ∨ x = 63) (hy : nameB y = true) : spec_tmEnd.f (k + 1) (B s) i = spec_tmEnd.f k (B s) (i + 4 : Nat) := by
  obtain ⟨n1, n2, n3, n4, n5, n6⟩ := name_ne ha
  have hn := h.len
  simp only [List.length_cons, List.length_append, List.length_nil] at hn
  have w1 : wrap64 ((i : Int) + 1) = (i + 1 : Nat) := by rw [wrap_id (by omega) (by omega)]; omega
  have w2 : wrap64 ((i : Int) + 2) = (i + 2 : Nat) := by rw [wrap_id (by omega) (by omega)]; omega
  have w3 : wrap64 ((i : Int) + 3) = (i + 3 : Nat) := by rw [wrap_id (by omega) (by omega)]; omega
  have w4 : wrap64 ((i : Int) + 4) = (i + 4 : Nat) := by rw [wrap_id (by omega) (by omega)]; omega
  have w5 : wrap64 ((i : Int) + 5) = (i + 5 : Nat) := by rw [wrap_id (by omega) (by omega)]; omega
  have b0 := h.bt i 0 (by omega)
  have b1 := h.bt ((i + 1 : Nat) : Int) 1 (by omega)
  have b2 := h.bt ((i + 2 : Nat) : Int) 2 (by omega)
  have b3 := h.bt ((i + 3 : Nat) : Int) 3 (by omega)
  have b4 := h.bt ((i + 4 : Nat) : Int) 4 (by omega)
  simp only [spec_tmEnd.f, w1, w2, w3, w4, w5, h.size, b0, b1, b2, b3, b4, at_cons_zero, at_cons_succ, name_f, Option.bind_some, List.length_cons, List.length_nil]
  rw [if_neg (by omega), if_pos (by omega), if_pos (by omega)]
  simp only [e48, e42, e126, e35, e91, e40, n1, n2, n3, n4, n5, n6, if_false, ha, if_true]
  rw [if_pos (by omega), if_pos (by omega), if_pos (by omega)]
  rcases hx with rfl | rfl
  · rw [if_pos (by rfl), if_pos (by omega), if_pos (by omega), if_pos hy, if_pos (by omega), if_pos (by rfl), bind_id]
  · rw [if_neg (by decide), if_pos (by rfl), if_pos (by omega), if_pos (by omega), if_pos hy, if_pos (by omega), if_pos (by rfl), bind_id]
theorem end_name0 {a : UInt8} (h : At s i (a :: l)) (n1 : a ≠ 48) (n2 : a ≠ 126) (n3 : a ≠ 35) (n4 : a ≠ 91) (n5 : a ≠ 42) (n6 : a ≠ 40)
    (hne : ∀ x y l', l = x :: y :: 46 :: l' → nameB a = false ∨ (x ≠ 33 ∧ x ≠ 63) ∨ nameB y = false) : spec_tmEnd.f (k + 1) (B s) i = some (-1) := by
  match l, hne, h with
  | [], hne, h =>
    have hn := h.len
    simp only [List.length_cons, List.length_append, List.length_nil] at hn
    have w1 : wrap64 ((i : Int) + 1) = (i + 1 : Nat) := by rw [wrap_id (by omega) (by omega)]; omega
    have w2 : wrap64 ((i : Int) + 2) = (i + 2 : Nat) := by rw [wrap_id (by omega) (by omega)]; omega
    have w3 : wrap64 ((i : Int) + 3) = (i + 3 : Nat) := by rw [wrap_id (by omega) (by omega)]; omega
    have w4 : wrap64 ((i : Int) + 4) = (i + 4 : Nat) := by rw [wrap_id (by omega) (by omega)]; omega
    have w5 : wrap64 ((i : Int) + 5) = (i + 5 : Nat) := by rw [wrap_id (by omega) (by omega)]; omega
    have b0 := h.bt i 0 (by omega)
    have b1 := h.bt ((i + 1 : Nat) : Int) 1 (by omega)
    have b2 := h.bt ((i + 2 : Nat) : Int) 2 (by omega)
    have b3 := h.bt ((i + 3 : Nat) : Int) 3 (by omega)
    have b4 := h.bt ((i + 4 : Nat) : Int) 4 (by omega)
    simp only [spec_tmEnd.f, w1, w2, w3, w4, w5, h.size, b0, b1, b2, b3, b4, at_cons_zero, at_cons_succ, name_f, Option.bind_some, List.length_cons, List.length_nil]
    rw [if_neg (by omega), if_pos (by omega), if_pos (by omega)]
    simp only [e48, e42, e126, e35, e91, e40, n1, n2, n3, n4, n5, n6, if_false]
    rw [if_neg (c := ((i + 3 : Nat) : Int) < _) (by omega)]; split <;> rfl
  | [x], hne, h =>
    have hn := h.len
    simp only [List.length_cons, List.length_append, List.length_nil] at hn
    have w1 : wrap64 ((i : Int) + 1) = (i + 1 : Nat) := by rw [wrap_id (by omega) (by omega)]; omega
    have w2 : wrap64 ((i : Int) + 2) = (i + 2 : Nat) := by rw [wrap_id (by omega) (by omega)]; omega
    have w3 : wrap64 ((i : Int) + 3) = (i + 3 : Nat) := by rw [wrap_id (by omega) (by omega)]; omega
    have w4 : wrap64 ((i : Int) + 4) = (i + 4 : Nat) := by rw [wrap_id (by omega) (by omega)]; omega
    have w5 : wrap64 ((i : Int) + 5) = (i + 5 : Nat) := by rw [wrap_id (by omega) (by omega)]; omega
    have b0 := h.bt i 0 (by omega)
    have b1 := h.bt ((i + 1 : Nat) : Int) 1 (by omega)
    have b2 := h.bt ((i + 2 : Nat) : Int) 2 (by omega)
    have b3 := h.bt ((i + 3 : Nat) : Int) 3 (by omega)
    have b4 := h.bt ((i + 4 : Nat) : Int) 4 (by omega)
    simp only [spec_tmEnd.f, w1, w2, w3, w4, w5, h.size, b0, b1, b2, b3, b4, at_cons_zero, at_cons_succ, name_f, Option.bind_some, List.length_cons, List.length_nil]
    rw [if_neg (by omega), if_pos (by omega), if_pos (by omega)]
    simp only [e48, e42, e126, e35, e91, e40, n1, n2, n3, n4, n5, n6, if_false]
    rw [if_neg (c := ((i + 3 : Nat) : Int) < _) (by omega)]; split <;> rfl
  | [x, y], hne, h =>
    have hn := h.len
    simp only [List.length_cons, List.length_append, List.length_nil] at hn
    have w1 : wrap64 ((i : Int) + 1) = (i + 1 : Nat) := by rw [wrap_id (by omega) (by omega)]; omega
    have w2 : wrap64 ((i : Int) + 2) = (i + 2 : Nat) := by rw [wrap_id (by omega) (by omega)]; omega
    have w3 : wrap64 ((i : Int) + 3) = (i + 3 : Nat) := by rw [wrap_id (by omega) (by omega)]; omega
    have w4 : wrap64 ((i : Int) + 4) = (i + 4 : Nat) := by rw [wrap_id (by omega) (by omega)]; omega
    have w5 : wrap64 ((i : Int) + 5) = (i + 5 : Nat) := by rw [wrap_id (by omega) (by omega)]; omega
    have b0 := h.bt i 0 (by omega)
    have b1 := h.bt ((i + 1 : Nat) : Int) 1 (by omega)
    have b2 := h.bt ((i + 2 : Nat) : Int) 2 (by omega)
    have b3 := h.bt ((i + 3 : Nat) : Int) 3 (by omega)
    have b4 := h.bt ((i + 4 : Nat) : Int) 4 (by omega)
    simp only [spec_tmEnd.f, w1, w2, w3, w4, w5, h.size, b0, b1, b2, b3, b4, at_cons_zero, at_cons_succ, name_f, Option.bind_some, List.length_cons, List.length_nil]
    rw [if_neg (by omega), if_pos (by omega), if_pos (by omega)]
    simp only [e48, e42, e126, e35, e91, e40, n1, n2, n3, n4, n5, n6, if_false]
    rw [if_neg (c := ((i + 3 : Nat) : Int) < _) (by omega)]; split <;> rfl
  | x :: y :: z :: l, hne, h =>
    have hn := h.len
    simp only [List.length_cons, List.length_append, List.length_nil] at hn
    have w1 : wrap64 ((i : Int) + 1) = (i + 1 : Nat) := by rw [wrap_id (by omega) (by omega)]; omega
    have w2 : wrap64 ((i : Int) + 2) = (i + 2 : Nat) := by rw [wrap_id (by omega) (by omega)]; omega
    have w3 : wrap64 ((i : Int) + 3) = (i + 3 : Nat) := by rw [wrap_id (by omega) (by omega)]; omega
    have w4 : wrap64 ((i : Int) + 4) = (i + 4 : Nat) := by rw [wrap_id (by omega) (by omega)]; omega
    have w5 : wrap64 ((i : Int) + 5) = (i + 5 : Nat) := by rw [wrap_id (by omega) (by omega)]; omega
    have b0 := h.bt i 0 (by omega)
    have b1 := h.bt ((i + 1 : Nat) : Int) 1 (by omega)
    have b2 := h.bt ((i + 2 : Nat) : Int) 2 (by omega)
    have b3 := h.bt ((i + 3 : Nat) : Int) 3 (by omega)
    have b4 := h.bt ((i + 4 : Nat) : Int) 4 (by omega)
    simp only [spec_tmEnd.f, w1, w2, w3, w4, w5, h.size, b0, b1, b2, b3, b4, at_cons_zero, at_cons_succ, name_f, Option.bind_some, List.length_cons, List.length_nil]
    rw [if_neg (by omega), if_pos (by omega), if_pos (by omega)]
    simp only [e48, e42, e126, e35, e91, e40, n1, n2, n3, n4, n5, n6, if_false]
    by_cases ha : nameB a = true
    · rw [if_pos ha, if_pos (by omega), if_pos (by omega), if_pos (by omega)]; simp only [e33, e63]
      have key : (if nameB y = true then (if 0 ≤ ((i + 3 : Nat) : Int) then (if vl z = 46 then ((spec_tmEnd.f k (B s) ((i + 4 : Nat) : Int)).bind fun t112 => (some t112)) else (some (-1))) else none) else some (-1)) = some (-1) ∨ (x ≠ 33 ∧ x ≠ 63) := by
        by_cases hx : x ≠ 33 ∧ x ≠ 63
        · exact .inr hx
        left
        by_cases hy : nameB y = true
        · rw [if_pos hy, if_pos (by omega), if_neg (by rw [e46]; rintro rfl; rcases hne x y l rfl with h | h | h <;> simp_all)]
        · rw [if_neg hy]
      rcases key with key | ⟨k1, k2⟩
      · by_cases hx : x = 33
        · rw [if_pos hx, if_pos (by omega), if_pos (by omega)]; exact key
        · rw [if_neg hx]
          by_cases hx2 : x = 63
          · rw [if_pos hx2, if_pos (by omega), if_pos (by omega)]; exact key
          · rw [if_neg hx2]
      · rw [if_neg k1, if_neg k2]
    · rw [if_neg ha]
end

end Go.Proofs.YtjgfgjhaghbehaaGreat.PsoPlace
namespace Go.Proofs.YtjgfgjhaghbehaaGreat.PsoPlace
open Go.RowKit Go.Proofs.YtjgfgjhaghbehaaGreatW.PrintWords Go.Proofs.YtjgfgjhaghbehaaGreatW.PrintLast Go.Proofs.YtjgfgjhaghbehaaGreatW.PrintMore
set_option linter.unusedVariables false
set_option linter.unusedSimpArgs false

theorem ne_vl35 {x : UInt8} (h : x ≠ 35) : (vl x == 35) = false := by rw [beq_eq_false_iff_ne, ne_eq, e35]; exact h

theorem end_paren {s l : List UInt8} {i : Nat} (k : Nat) (hs : s.length ≤ 1000000) (h : At s i (40 :: l)) {r : Int} (hr : spec_tmEnd.f k (B s) (i + 1 : Nat) = some r) :
    spec_tmEnd.f (k + 1) (B s) i = if r < 0 then spec_tmEnd.j0 k (B s) r true else if r ≥ ((B s).size : Int) then spec_tmEnd.j0 k (B s) r true else if 0 ≤ r then (if r < ((B s).size : Int) then (if bt (B s) r = 43 then spec_tmEnd.j0 k (B s) r false else spec_tmEnd.j0 k (B s) r (bt (B s) r != 38)) else none) else none := by
  have hn := h.len
  simp only [List.length_cons] at hn
  have w1 : wrap64 ((i : Int) + 1) = (i + 1 : Nat) := by rw [wrap_id (by omega) (by omega)]; omega
  have b0 := h.bt i 0 (by omega)
  have hz := h.size
  simp only [List.length_cons] at hz
  simp only [spec_tmEnd.f, w1, b0, hr, at_cons_zero, Option.bind_some]
  rw [if_neg (by omega), if_pos (by omega), if_pos (by omega), if_neg (by decide), if_neg (by decide), if_neg (by decide), if_neg (by decide), if_neg (by decide), if_pos (by rfl)]

theorem end_second {s l : List UInt8} {j : Nat} (k : Nat) (hs : s.length ≤ 1000000) (h : At s j l) (hj : 0 < l.length) {r : Int} (hr : spec_tmEnd.f k (B s) (j + 1 : Nat) = some r) :
    spec_tmEnd.j0 (k + 1) (B s) j false = if r ≥ 0 then (if r < ((B s).size : Int) then (if 0 ≤ r then (if bt (B s) r = 41 then some (wrap64 (r + 1)) else some (-1)) else none) else some (-1)) else some (-1) := by
  have hn := h.len
  have w1 : wrap64 ((j : Int) + 1) = (j + 1 : Nat) := by rw [wrap_id (by omega) (by omega)]; omega
  simp only [spec_tmEnd.j0, w1, hr, Option.bind_some, Bool.false_eq_true, if_false]

theorem end_sound (n : Nat) : ∀ (l s : List UInt8) (i : Nat), l.length ≤ n → At s i l → s.length ≤ 1000000 →
    ∃ r, (∀ k, 2 * n + 2 ≤ k → spec_tmEnd.f k (B s) i = some r) ∧ (r = -1 ∨ ∃ t rest, Wf nameB t ∧ l = t.text ++ rest ∧ r = ((i + t.text.length : Nat) : Int)) := by
  induction n with
  | zero =>
    intro l s i hl h hs
    have : l = [] := List.length_eq_zero_iff.mp (by omega)
    subst this
    exact ⟨-1, fun k hk => by obtain ⟨k, rfl⟩ : ∃ m, k = m + 1 := ⟨k - 1, by omega⟩; exact end_nil k h, .inl rfl⟩
  | succ n ih =>
    intro l s i hl h hs
    cases l with
    | nil => exact ⟨-1, fun k hk => by obtain ⟨k, rfl⟩ : ∃ m, k = m + 1 := ⟨k - 1, by omega⟩; exact end_nil k h, .inl rfl⟩
    | cons c l =>
      simp only [List.length_cons] at hl
      have fail : (∀ k, spec_tmEnd.f (k + 1) (B s) i = some (-1)) → ∃ r, (∀ k, 2 * (n + 1) + 2 ≤ k → spec_tmEnd.f k (B s) i = some r) ∧ (r = -1 ∨ ∃ t rest, Wf nameB t ∧ c :: l = t.text ++ rest ∧ r = ((i + t.text.length : Nat) : Int)) :=
        fun hf => ⟨-1, fun k hk => by obtain ⟨k, rfl⟩ : ∃ m, k = m + 1 := ⟨k - 1, by omega⟩; exact hf k, .inl rfl⟩
      -- a sign with one part, whose head is hd
      have one : ∀ (hd l' : List UInt8) (mk : Tm → Tm), c :: l = hd ++ l' → 0 < hd.length → (∀ k, spec_tmEnd.f (k + 1) (B s) i = spec_tmEnd.f k (B s) ((i + hd.length : Nat) : Int)) → (∀ t, (mk t).text = hd ++ t.text) → (∀ t, Wf nameB t → Wf nameB (mk t)) →
          ∃ r, (∀ k, 2 * (n + 1) + 2 ≤ k → spec_tmEnd.f k (B s) i = some r) ∧ (r = -1 ∨ ∃ t rest, Wf nameB t ∧ c :: l = t.text ++ rest ∧ r = ((i + t.text.length : Nat) : Int)) := by
        intro hd l' mk he h0 hf ht hw
        have hlen : (c :: l).length = hd.length + l'.length := by rw [he]; simp
        simp only [List.length_cons] at hlen
        rw [he] at h
        obtain ⟨r, hr, h2⟩ := ih l' s (i + hd.length) (by omega) h.skip hs
        refine ⟨r, fun k hk => ?_, ?_⟩
        · obtain ⟨k, rfl⟩ : ∃ m, k = m + 1 := ⟨k - 1, by omega⟩
          rw [hf, hr k (by omega)]
        · rcases h2 with h2 | ⟨t, rest, h3, h4, h5⟩
          · exact .inl h2
          · refine .inr ⟨mk t, rest, hw t h3, by rw [he, h4, ht]; simp, ?_⟩
            rw [h5, ht]; simp; omega
      by_cases h1 : c = 48
      · subst h1
        refine ⟨((i + 1 : Nat) : Int), fun k hk => ?_, .inr ⟨.leaf 48 0 0, l, ⟨rfl, rfl, rfl⟩, rfl, rfl⟩⟩
        obtain ⟨k, rfl⟩ : ∃ m, k = m + 1 := ⟨k - 1, by omega⟩
        exact end_zero k hs h
      by_cases h2 : c = 42
      · subst h2
        exact one [42] l (.un 42 0 0) rfl (by simp) (fun k => end_star k hs h) (fun t => by simp [Tm.text]) (fun t ht => ⟨.inr (.inr ⟨.inl rfl, rfl, rfl⟩), ht⟩)
      by_cases h3 : c = 126
      · subst h3
        by_cases g : ∃ l', l = 46 :: l'
        · obtain ⟨l', rfl⟩ := g
          exact one [126, 46] l' (.un 126 0 0) rfl (by simp) (fun k => end_tilde k hs h) (fun t => by simp [Tm.text]) (fun t ht => ⟨.inr (.inr ⟨.inr rfl, rfl, rfl⟩), ht⟩)
        · exact fail fun k => end_tilde0 k hs h (fun l' e => g ⟨l', e⟩)
      by_cases h4 : c = 35
      · subst h4
        by_cases g : ∃ x l', l = x :: 46 :: l' ∧ nameB x = true
        · obtain ⟨x, l', rfl, hx⟩ := g
          exact one [35, x, 46] l' (.un 35 0 x) rfl (by simp) (fun k => end_hash k hs h hx) (fun t => by simp [Tm.text]) (fun t ht => ⟨.inr (.inl ⟨rfl, rfl, hx⟩), ht⟩)
        · exact fail fun k => end_hash0 k hs h (fun x l' e => by by_cases hx : nameB x = true; · exact absurd ⟨x, l', e, hx⟩ g
                                                                 simpa using hx)
      by_cases h5 : c = 91
      · subst h5
        by_cases g : ∃ x y l', l = x :: 61 :: y :: 93 :: l' ∧ nameB x = true ∧ nameB y = true
        · obtain ⟨x, y, l', rfl, hx, hy⟩ := g
          exact one [91, x, 61, y, 93] l' (.un 61 x y) rfl (by simp) (fun k => end_match k hs h hx hy) (fun t => by simp [Tm.text]) (fun t ht => ⟨.inl ⟨.inr (.inr rfl), hx, hy⟩, ht⟩)
        · refine fail fun k => end_match0 k hs h (fun x y l' e => ?_)
          by_cases hx : nameB x = true
          · by_cases hy : nameB y = true
            · exact absurd ⟨x, y, l', e, hx, hy⟩ g
            · right; simpa using hy
          · left; simpa using hx
      by_cases h6 : c = 40
      · subst h6
        have hz := h.size
        have hn := h.len
        simp only [List.length_cons] at hz hn
        obtain ⟨r1, hr1, g1⟩ := ih l s (i + 1) (by omega) h.step hs
        rcases g1 with rfl | ⟨t1, rest1, hw1, hl1, rfl⟩
        · refine ⟨-1, fun k hk => ?_, .inl rfl⟩
          obtain ⟨k, rfl⟩ : ∃ m, k = m + 2 := ⟨k - 2, by omega⟩
          rw [end_paren (k + 1) hs h (hr1 (k + 1) (by omega)), if_pos (by decide)]; rfl
        · have ha : At s (i + 1 + t1.text.length) rest1 := by
            have := h.step; rw [hl1] at this; exact this.skip
          have hal := ha.len
          have has := ha.size
          cases rest1 with
          | nil =>
            refine ⟨-1, fun k hk => ?_, .inl rfl⟩
            obtain ⟨k, rfl⟩ : ∃ m, k = m + 2 := ⟨k - 2, by omega⟩
            simp only [List.length_nil] at has
            rw [end_paren (k + 1) hs h (hr1 (k + 1) (by omega)), if_neg (by omega), if_pos (by omega)]; rfl
          | cons d rest1 =>
            simp only [List.length_cons] at has hal
            have hb := ha.bt _ 0 (show ((i + 1 + t1.text.length : Nat) : Int) = (i + 1 + t1.text.length : Nat) + (0 : Nat) by omega)
            rw [at_cons_zero] at hb
            by_cases hd : d = 43 ∨ d = 38
            · obtain ⟨r2, hr2, g2⟩ := ih rest1 s (i + 1 + t1.text.length + 1) (by omega) ha.step hs
              have hj : ∀ k, 2 * n + 4 ≤ k → spec_tmEnd.f (k) (B s) i = if r2 ≥ 0 then (if r2 < ((B s).size : Int) then (if 0 ≤ r2 then (if bt (B s) r2 = 41 then some (wrap64 (r2 + 1)) else some (-1)) else none) else some (-1)) else some (-1) := by
                intro k hk
                obtain ⟨k, rfl⟩ : ∃ m, k = m + 2 := ⟨k - 2, by omega⟩
                rw [end_paren (k + 1) hs h (hr1 (k + 1) (by omega)), if_neg (by omega), if_neg (by omega), if_pos (by omega), if_pos (by omega), hb]
                have hj0 := end_second k hs ha (by simp) (hr2 k (by omega))
                rcases hd with rfl | rfl
                · rw [if_pos (by rfl)]; exact hj0
                · rw [if_neg (by decide), show (vl 38 != 38) = false from by decide]; exact hj0
              rcases g2 with rfl | ⟨t2, rest2, hw2, hl2, rfl⟩
              · exact ⟨-1, fun k hk => by rw [hj k (by omega), if_neg (by decide)], .inl rfl⟩
              · have hc : At s (i + 1 + t1.text.length + 1 + t2.text.length) rest2 := by
                  have := ha.step; rw [hl2] at this; exact this.skip
                have hcl := hc.len
                have hcs := hc.size
                cases rest2 with
                | nil =>
                  simp only [List.length_nil] at hcs
                  exact ⟨-1, fun k hk => by rw [hj k (by omega), if_pos (by omega), if_neg (by omega)], .inl rfl⟩
                | cons u rest2 =>
                  simp only [List.length_cons] at hcs hcl
                  have hb2 := hc.bt _ 0 (show ((i + 1 + t1.text.length + 1 + t2.text.length : Nat) : Int) = (i + 1 + t1.text.length + 1 + t2.text.length : Nat) + (0 : Nat) by omega)
                  rw [at_cons_zero] at hb2
                  by_cases hu : u = 41
                  · subst hu
                    refine ⟨_, fun k hk => by rw [hj k (by omega), if_pos (by omega), if_pos (by omega), if_pos (by omega), hb2, if_pos (by rfl)], .inr ⟨.bin d 0 0 t1 t2, rest2, ⟨hd, rfl, rfl, hw1, hw2⟩, ?_, ?_⟩⟩
                    · rw [hl1, hl2]; simp [Tm.text]
                    · rw [wrap_id (by omega) (by omega)]; simp [Tm.text]; omega
                  · exact ⟨-1, fun k hk => by rw [hj k (by omega), if_pos (by omega), if_pos (by omega), if_pos (by omega), hb2, if_neg (by rw [e41]; exact hu)], .inl rfl⟩
            · refine ⟨-1, fun k hk => ?_, .inl rfl⟩
              obtain ⟨k, rfl⟩ : ∃ m, k = m + 2 := ⟨k - 2, by omega⟩
              rw [end_paren (k + 1) hs h (hr1 (k + 1) (by omega)), if_neg (by omega), if_neg (by omega), if_pos (by omega), if_pos (by omega), hb, if_neg (by rw [e43]; exact fun e => hd (.inl e)),
                show (vl d != 38) = true from by rw [bne_iff_ne, ne_eq, e38]; exact fun e => hd (.inr e)]
              rfl
      by_cases g : ∃ x y l', l = x :: y :: 46 :: l' ∧ nameB c = true ∧ (x = 33 ∨ x = 63) ∧ nameB y = true
      · obtain ⟨x, y, l', rfl, hc, hx, hy⟩ := g
        refine one [c, x, y, 46] l' (.un x c y) rfl (by simp) (fun k => end_name k hs h hc hx hy) (fun t => ?_) (fun t ht => ⟨.inl ⟨by rcases hx with h | h <;> simp [h], hc, hy⟩, ht⟩)
        rcases hx with rfl | rfl <;> simp [Tm.text]
      · refine fail fun k => end_name0 k hs h h1 h3 h4 h5 h2 h6 (fun x y l' e => ?_)
        by_cases hc : nameB c = true
        · by_cases hy : nameB y = true
          · by_cases hx : x = 33 ∨ x = 63
            · exact absurd ⟨x, y, l', e, hc, hx, hy⟩ g
            · right; left; exact ⟨fun e => hx (.inl e), fun e => hx (.inr e)⟩
          · right; right; simpa using hy
        · left; simpa using hc

theorem end_text (t : Tm) : ∀ (s rest : List UInt8) (i k : Nat), Wf nameB t → At s i (t.text ++ rest) → s.length ≤ 1000000 → t.size ≤ k → spec_tmEnd.f k (B s) i = some ((i + t.text.length : Nat) : Int) := by
  induction t with
  | leaf k a b =>
    intro s rest i k hw h hs hk
    obtain ⟨k, rfl⟩ : ∃ m, k = m + 1 := ⟨k - 1, by simp [Tm.size] at hk; omega⟩
    exact end_zero k hs h
  | un sk a b t ih =>
    intro s rest i k hw h hs hk
    simp only [Tm.size] at hk
    obtain ⟨k, rfl⟩ : ∃ m, k = m + 1 := ⟨k - 1, by omega⟩
    have go : ∀ hd : List UInt8, Tm.text (.un sk a b t) = hd ++ t.text → spec_tmEnd.f (k + 1) (B s) i = spec_tmEnd.f k (B s) ((i + hd.length : Nat) : Int) → spec_tmEnd.f (k + 1) (B s) i = some ((i + (Tm.un sk a b t).text.length : Nat) : Int) := by
      intro hd ht hf
      rw [ht, List.append_assoc] at h
      rw [hf, ih s rest (i + hd.length) k hw.2 h.skip hs (by omega), ht]
      simp; omega
    rcases hw.1 with ⟨hk2, ha, hb⟩ | ⟨rfl, rfl, hb⟩ | ⟨hk2, rfl, rfl⟩
    · rcases hk2 with rfl | rfl | rfl
      · exact go [a, 33, b, 46] (by simp [Tm.text]) (end_name k hs (l := t.text ++ rest) (by simpa [Tm.text] using h) ha (.inl rfl) hb)
      · exact go [a, 63, b, 46] (by simp [Tm.text]) (end_name k hs (l := t.text ++ rest) (by simpa [Tm.text] using h) ha (.inr rfl) hb)
      · exact go [91, a, 61, b, 93] (by simp [Tm.text]) (end_match k hs (l := t.text ++ rest) (by simpa [Tm.text] using h) ha hb)
    · exact go [35, b, 46] (by simp [Tm.text]) (end_hash k hs (l := t.text ++ rest) (by simpa [Tm.text] using h) hb)
    · rcases hk2 with rfl | rfl
      · exact go [42] (by simp [Tm.text]) (end_star k hs (l := t.text ++ rest) (by simpa [Tm.text] using h))
      · exact go [126, 46] (by simp [Tm.text]) (end_tilde k hs (l := t.text ++ rest) (by simpa [Tm.text] using h))
  | bin sk a b t u ih1 ih2 =>
    intro s rest i k hw h hs hk
    obtain ⟨hk2, rfl, rfl, hw1, hw2⟩ := hw
    simp only [Tm.size] at hk
    have := t.size_pos
    obtain ⟨k, rfl⟩ : ∃ m, k = m + 2 := ⟨k - 2, by omega⟩
    have h1 : At s i (40 :: (t.text ++ sk :: (u.text ++ 41 :: rest))) := by simpa [Tm.text] using h
    have h2 := h1.step
    have h3 := h2.skip
    have h4 := h3.step
    have h5 := h4.skip
    have l3 := h3.len
    have l5 := h5.len
    have z3 := h3.size
    have z5 := h5.size
    simp only [List.length_cons, List.length_append] at l3 l5 z3 z5
    have e1 := ih1 s _ _ (k + 1) hw1 h2 hs (by omega)
    have e2 := ih2 s _ _ k hw2 h4 hs (by omega)
    have hb := h3.bt _ 0 (show ((i + 1 + t.text.length : Nat) : Int) = (i + 1 + t.text.length : Nat) + (0 : Nat) by omega)
    have hb2 := h5.bt _ 0 (show ((i + 1 + t.text.length + 1 + u.text.length : Nat) : Int) = (i + 1 + t.text.length + 1 + u.text.length : Nat) + (0 : Nat) by omega)
    rw [at_cons_zero] at hb hb2
    have hj := end_second k hs h3 (by simp) e2
    rw [if_pos (by omega), if_pos (by omega), if_pos (by omega), hb2, if_pos (by rfl), wrap_id (by omega) (by omega)] at hj
    rw [end_paren (k + 1) hs h1 e1, if_neg (by omega), if_neg (by omega), if_pos (by omega), if_pos (by omega), hb]
    have hfin : (((i + 1 + t.text.length + 1 + u.text.length : Nat) : Int) + 1) = ((i + (Tm.bin sk 0 0 t u).text.length : Nat) : Int) := by simp [Tm.text]; omega
    rw [hfin] at hj
    rcases hk2 with rfl | rfl
    · rw [if_pos (by rfl)]; exact hj
    · rw [if_neg (by decide), show (vl 38 != 38) = false from by decide]; exact hj

theorem text_len (t : Tm) : 0 < t.text.length := by
  have h1 := size_le_text t
  have h2 := t.size_pos
  omega

theorem kind_text {t : Tm} {k : Nat} (hw : Wf nameB t) (hl : t.text.length ≤ 1000000) (hk : t.size + 1 ≤ k) : spec_tmKind.f k (B t.text) = some (vl t.kind) := by
  have hp := text_len t
  have hz := (At.start t.text).size
  obtain ⟨k, rfl⟩ : ∃ m, k = m + 1 := ⟨k - 1, by omega⟩
  unfold spec_tmKind.f
  rw [if_pos (by rw [hz]; omega)]
  cases t with
  | leaf sk a b =>
    obtain ⟨rfl, rfl, rfl⟩ := hw
    rw [(At.start _).bt 0 0 rfl]
    rfl
  | un sk a b t =>
    rcases hw.1 with ⟨hk2, ha, hb⟩ | ⟨rfl, rfl, hb⟩ | ⟨hk2, rfl, rfl⟩
    · obtain ⟨n1, n2, n3, n4, n5, n6⟩ := name_ne ha
      rcases hk2 with rfl | rfl | rfl
      · have h : At (Tm.un 33 a b t).text 0 (a :: 33 :: b :: 46 :: t.text) := by simpa [Tm.text] using At.start (Tm.un 33 a b t).text
        have hz := h.size
        simp only [List.length_cons] at hz
        simp only [h.bt 0 0 rfl, at_cons_zero, e48, e42, e126, n1, n2, n5, if_false, show (vl a == 35) = false from ne_vl35 n3, spec_tmKind.j0, e91, e40, n4, n6, Bool.false_eq_true]
        rw [if_pos (by omega), h.bt 1 1 rfl]; rfl
      · have h : At (Tm.un 63 a b t).text 0 (a :: 63 :: b :: 46 :: t.text) := by simpa [Tm.text] using At.start (Tm.un 63 a b t).text
        have hz := h.size
        simp only [List.length_cons] at hz
        simp only [h.bt 0 0 rfl, at_cons_zero, e48, e42, e126, n1, n2, n5, if_false, show (vl a == 35) = false from ne_vl35 n3, spec_tmKind.j0, e91, e40, n4, n6, Bool.false_eq_true]
        rw [if_pos (by omega), h.bt 1 1 rfl]; rfl
      · have h : At (Tm.un 61 a b t).text 0 (91 :: a :: 61 :: b :: 93 :: t.text) := by simpa [Tm.text] using At.start (Tm.un 61 a b t).text
        simp only [h.bt 0 0 rfl, at_cons_zero]
        rfl
    · have h : At (Tm.un 35 0 b t).text 0 (35 :: b :: 46 :: t.text) := by simpa [Tm.text] using At.start (Tm.un 35 0 b t).text
      simp only [h.bt 0 0 rfl, at_cons_zero]
      rfl
    · rcases hk2 with rfl | rfl
      · have h : At (Tm.un 42 0 0 t).text 0 (42 :: t.text) := by simpa [Tm.text] using At.start (Tm.un 42 0 0 t).text
        simp only [h.bt 0 0 rfl, at_cons_zero]
        rfl
      · have h : At (Tm.un 126 0 0 t).text 0 (126 :: 46 :: t.text) := by simpa [Tm.text] using At.start (Tm.un 126 0 0 t).text
        simp only [h.bt 0 0 rfl, at_cons_zero]
        rfl
  | bin sk a b t u =>
    obtain ⟨hk2, rfl, rfl, hw1, hw2⟩ := hw
    have h : At (Tm.bin sk 0 0 t u).text 0 (40 :: (t.text ++ sk :: (u.text ++ [41]))) := At.start _
    have hz := h.size
    simp only [List.length_cons, List.length_append] at hz
    simp only [Tm.size] at hk
    have h3 := h.step.skip
    have e1 := end_text t _ _ _ k hw1 h.step (by simpa using hl) (by omega)
    have hc : ((0 + 1 : Nat) : Int) = 1 := rfl
    rw [hc] at e1
    simp only [h.bt 0 0 rfl, at_cons_zero]
    rw [if_neg (by decide), if_neg (by decide), if_neg (by decide), show (vl 40 == 35) = false from by decide]
    simp only [spec_tmKind.j0, e1, Option.bind_some, Bool.false_eq_true, if_false]
    rw [if_neg (by decide), if_pos (by rfl), if_pos (by omega), if_pos (by omega), h3.bt _ 0 (by omega)]
    rfl

def headLen (k : UInt8) : Nat := if k = 42 then 1 else if k = 126 then 2 else if k = 35 then 3 else if k = 61 then 5 else 4
theorem head_text {t : Tm} {k : Nat} (hw : Wf nameB t) (hl : t.text.length ≤ 1000000) (hk : t.size + 1 ≤ k) : spec_tmHead.f k (B t.text) = some (if t.kind = 43 ∨ t.kind = 38 then 1 else (headLen t.kind : Int)) := by
  unfold spec_tmHead.f
  rw [kind_text hw hl hk, Option.bind_some]
  obtain ⟨k, rfl⟩ : ∃ m, k = m + 1 := ⟨k - 1, by omega⟩
  generalize t.kind = c
  simp only [spec_tmHead.j0, e42, e43, e126, e35, e61, headLen]
  by_cases h1 : c = 42
  · subst h1; rfl
  by_cases h2 : c = 43
  · subst h2; rfl
  by_cases h3 : c = 38
  · subst h3; rfl
  have : (vl c == 38) = false := by rw [beq_eq_false_iff_ne, ne_eq, e38]; exact h3
  rw [this]
  simp only [h1, h2, h3, if_false, or_self, Bool.false_eq_true]
  by_cases h4 : c = 126
  · subst h4; rfl
  by_cases h5 : c = 35
  · subst h5; rfl
  by_cases h6 : c = 61
  · subst h6; rfl
  simp [h4, h5, h6]

theorem parts_text {t : Tm} {k : Nat} (hw : Wf nameB t) (hl : t.text.length ≤ 1000000) (hk : t.size + 2 ≤ k) : spec_tmParts.f k (B t.text) = some (t.kids.map fun u => B u.text) := by
  unfold spec_tmParts.f
  rw [kind_text hw hl (by omega), Option.bind_some]
  have hhead := head_text hw hl (k := k - 1) (by omega)
  obtain ⟨k, rfl⟩ : ∃ m, k = m + 1 := ⟨k - 1, by omega⟩
  rw [Nat.add_sub_cancel] at hhead
  have hz := (At.start t.text).size
  cases t with
  | leaf sk a b => obtain ⟨rfl, rfl, rfl⟩ := hw; rfl
  | un sk a b t =>
    simp only [Tm.kind] at hhead ⊢
    have hne : sk ≠ 48 ∧ sk ≠ 43 ∧ sk ≠ 38 := by
      rcases hw.1 with ⟨h, _⟩ | ⟨h, _⟩ | ⟨h, _⟩
      · rcases h with rfl | rfl | rfl <;> decide
      · subst h; decide
      · rcases h with rfl | rfl <;> decide
    simp only [e48, e43, hne, if_false, show (vl sk == 38) = false from by rw [beq_eq_false_iff_ne, ne_eq, e38]; exact hne.2.2]
    have ht : ∃ hd : List UInt8, (Tm.un sk a b t).text = hd ++ t.text ∧ hd.length = headLen sk := by
      refine ⟨_, rfl, ?_⟩
      unfold headLen
      rcases hw.1 with ⟨h, _⟩ | ⟨h, _⟩ | ⟨h, _⟩
      · rcases h with rfl | rfl | rfl <;> rfl
      · subst h; rfl
      · rcases h with rfl | rfl <;> rfl
    obtain ⟨hd, ht, hlen⟩ := ht
    simp only [hne, or_self, if_false] at hhead
    simp only [spec_tmParts.j0, hhead, Option.bind_some, Bool.false_eq_true, if_false]
    rw [B_size, if_pos (by omega), if_pos (by rw [ht, ← hlen]; simp; omega), B_extract]
    simp only [Int.toNat_natCast, List.take_length, ht, ← hlen, List.drop_left, Tm.kids, List.map_cons, List.map_nil]
  | bin sk a b t u =>
    obtain ⟨hk2, rfl, rfl, hw1, hw2⟩ := hw
    have h : At (Tm.bin sk 0 0 t u).text 0 (40 :: (t.text ++ sk :: (u.text ++ [41]))) := At.start _
    simp only [Tm.size] at hk
    have e1 := end_text t _ _ _ k hw1 h.step (by simpa using hl) (by omega)
    have hc : ((0 + 1 : Nat) : Int) = 1 := rfl
    rw [hc] at e1
    have hlen := h.len
    simp only [List.length_cons, List.length_append, List.length_nil] at hlen
    simp only [Tm.kind, e48, e43]
    have hj : spec_tmParts.j0 (k + 1) (B (Tm.bin sk 0 0 t u).text) true = some [B t.text, B u.text] := by
      simp only [spec_tmParts.j0, e1, Option.bind_some, if_true, B_size]
      have w1 : wrap64 (((0 + 1 + t.text.length : Nat) : Int) + 1) = ((t.text.length + 2 : Nat) : Int) := by rw [wrap_id (by omega) (by omega)]; omega
      have w2 : wrap64 (((Tm.bin sk 0 0 t u).text.length : Int) - 1) = ((t.text.length + u.text.length + 2 : Nat) : Int) := by rw [wrap_id (by omega) (by omega)]; omega
      rw [w1, w2, if_pos (by omega), if_pos (by omega), if_pos (by omega), if_pos (by omega), if_pos (by omega), B_extract, B_extract]
      simp only [Int.toNat_natCast]
      have x1 : List.drop 1 (List.take (0 + 1 + t.text.length) (Tm.bin sk 0 0 t u).text) = t.text := by
        rw [show 0 + 1 + t.text.length = t.text.length + 1 from by omega]
        simp [Tm.text]
      have x2 : List.drop (t.text.length + 2) (List.take (t.text.length + u.text.length + 2) (Tm.bin sk 0 0 t u).text) = u.text := by
        rw [List.drop_take, show t.text.length + u.text.length + 2 - (t.text.length + 2) = u.text.length from by omega]
        rw [show (Tm.bin sk 0 0 t u).text = (40 :: (t.text ++ [sk])) ++ (u.text ++ [41]) from by simp [Tm.text], show t.text.length + 2 = (40 :: (t.text ++ [sk])).length from by simp, List.drop_left, List.take_left]
      rw [x1, x2]
    rcases hk2 with rfl | rfl
    · rw [if_neg (by decide), if_pos rfl]; exact hj
    · rw [if_neg (by decide), if_neg (by decide)]; exact hj

theorem size_step (k : Nat) (s : ByteArray) : spec_tmSize.f (k + 1) s = (spec_tmParts.f k s).bind fun t => spec_tmSize.l0 k 1 t (t.length : Int) 0 := by simp only [spec_tmSize.f]
theorem size_round {k : Nat} {x : Int} {xs : List ByteArray} {i : Nat} {n : Int} (hn : n = xs.length) (hi : i < xs.length) (hl : xs.length ≤ 1000000) {y : Int} (h : spec_tmSize.f k (xs.getD i ByteArray.empty) = some y) : spec_tmSize.l0 (k + 1) x xs n i = spec_tmSize.l0 k (wrap64 (x + y)) xs n ((i + 1 : Nat) : Int) := by
  subst hn
  rw [spec_tmSize.l0, if_pos (by omega), if_pos (by omega), if_pos (by omega), show rdOf ByteArray.empty xs (i : Int) = xs.getD i ByteArray.empty from rfl, h, Option.bind_some, wrap_id (x := (i : Int) + 1) (by omega) (by omega)]; rfl
theorem size_end {k : Nat} {x : Int} {xs : List ByteArray} {i : Nat} {n : Int} (hn : n = xs.length) (hi : i = xs.length) : spec_tmSize.l0 (k + 1) x xs n i = some x := by
  subst hn; subst hi
  rw [spec_tmSize.l0, if_neg (by omega)]

theorem size_text (t : Tm) : ∀ k, Wf nameB t → t.text.length ≤ 1000000 → 4 * t.size + 4 ≤ k → spec_tmSize.f k (B t.text) = some (t.size : Int) := by
  induction t with
  | leaf sk a b =>
    intro k hw hl hk
    simp only [Tm.size] at hk
    obtain ⟨k, rfl⟩ : ∃ m, k = m + 2 := ⟨k - 2, by omega⟩
    rw [size_step, parts_text hw hl (by simp only [Tm.size]; omega), Option.bind_some]
    exact size_end (i := 0) rfl rfl
  | un sk a b t ih =>
    intro k hw hl hk
    simp only [Tm.size] at hk
    have hl2 : t.text.length ≤ 1000000 := by simp only [Tm.text, List.length_append] at hl; omega
    have hsz := size_le_text t
    obtain ⟨k, rfl⟩ : ∃ m, k = m + 4 := ⟨k - 4, by omega⟩
    rw [size_step, parts_text hw hl (by simp only [Tm.size]; omega), Option.bind_some]
    have r1 := size_round (k := k + 2) (x := 1) (xs := [B t.text]) (i := 0) rfl (by simp) (by simp) (ih (k + 2) hw.2 hl2 (by omega))
    refine r1.trans ((size_end (i := 1) rfl rfl).trans ?_)
    rw [wrap_id (by omega) (by omega)]; simp [Tm.size]
  | bin sk a b t u ih1 ih2 =>
    intro k hw hl hk
    simp only [Tm.size] at hk
    have hl' := hl
    simp only [Tm.text, List.length_cons, List.length_append] at hl'
    have hsz := size_le_text t
    have hsz2 := size_le_text u
    obtain ⟨k, rfl⟩ : ∃ m, k = m + 4 := ⟨k - 4, by omega⟩
    rw [size_step, parts_text hw hl (by simp only [Tm.size]; omega), Option.bind_some]
    have r1 := size_round (k := k + 2) (x := 1) (xs := [B t.text, B u.text]) (i := 0) rfl (by simp) (by simp) (ih1 (k + 2) hw.2.2.2.1 (by omega) (by omega))
    have r2 := size_round (k := k + 1) (x := wrap64 (1 + (t.size : Int))) (xs := [B t.text, B u.text]) (i := 1) rfl (by simp) (by simp) (ih2 (k + 1) hw.2.2.2.2 (by omega) (by omega))
    refine r1.trans (r2.trans ((size_end (i := 2) rfl rfl).trans ?_))
    rw [wrap_id (x := 1 + (t.size : Int)) (by omega) (by omega), wrap_id (by omega) (by omega)]; simp [Tm.size]

def smallB (c : UInt8) : Bool := decide (¬ (65 ≤ vl c ∧ vl c ≤ 90 ∨ 128 ≤ vl c))
theorem small_f (s : List UInt8) (hs : s.length ≤ 1000000) (n : Nat) : ∀ (i k : Nat) (l : List UInt8), At s i l → l.length ≤ n → n < k → spec_tmSmall.l0 k (B s) i = some (l.all smallB) := by
  induction n with
  | zero =>
    intro i k l h hl hk
    have : l = [] := List.length_eq_zero_iff.mp (by omega)
    subst this
    obtain ⟨k, rfl⟩ : ∃ m, k = m + 1 := ⟨k - 1, by omega⟩
    simp only [spec_tmSmall.l0]
    rw [h.size, if_neg (by simp)]; rfl
  | succ n ih =>
    intro i k l h hl hk
    obtain ⟨k, rfl⟩ : ∃ m, k = m + 1 := ⟨k - 1, by omega⟩
    cases l with
    | nil =>
      simp only [spec_tmSmall.l0]
      rw [h.size, if_neg (by simp)]; rfl
    | cons c l =>
      have hz := h.size
      have hn := h.len
      simp only [List.length_cons] at hz hl hn
      have e := ih (i + 1) k l h.step (by omega) (by omega)
      have w : wrap64 ((i : Int) + 1) = (i + 1 : Nat) := by rw [wrap_id (by omega) (by omega)]; omega
      simp only [spec_tmSmall.l0, h.bt i 0 (by omega), at_cons_zero, w, e]
      rw [if_pos (by omega), if_pos (by omega)]
      simp only [List.all_cons, smallB]
      by_cases h1 : vl c ≥ 65 <;> by_cases h2 : vl c ≤ 90 <;> by_cases h3 : vl c ≥ 128 <;> simp [h1, h2, h3]

theorem let_small {c : UInt8} (h : isLet c = true) : smallB c = true := by
  simp [isLet] at h; simp [smallB]; omega
theorem name_small {c : UInt8} (h : nameB c = true) (hs : smallB c = true) : isLet c = true := by
  simp [nameB] at h; simp [smallB] at hs; simp [isLet]; omega
theorem text_small {t : Tm} (h : Wf isLet t) : t.text.all smallB = true := by
  induction t with
  | leaf => simp [Tm.text]; decide
  | un sk a b t ih =>
    have ih := ih h.2
    rcases h.1 with ⟨hk, ha, hb⟩ | ⟨rfl, rfl, hb⟩ | ⟨hk, rfl, rfl⟩
    · have ha := let_small ha
      have hb := let_small hb
      rcases hk with rfl | rfl | rfl <;> simp only [Tm.text, List.all_append, ih, Bool.and_true] <;> simp [ha, hb] <;> decide
    · have hb := let_small hb
      simp only [Tm.text, List.all_append, ih, Bool.and_true]; simp [hb]; decide
    · rcases hk with rfl | rfl <;> simp only [Tm.text, List.all_append, ih, Bool.and_true] <;> decide
  | bin sk a b t u ih1 ih2 =>
    obtain ⟨hk, rfl, rfl, h1, h2⟩ := h
    have h1 := ih1 h1
    have h2 := ih2 h2
    rcases hk with rfl | rfl <;> simp only [Tm.text, List.all_cons, List.all_append, h1, h2, Bool.true_and, Bool.and_true] <;> decide
theorem small_wf {t : Tm} (h : Wf nameB t) (hs : t.text.all smallB = true) : Wf isLet t := by
  induction t with
  | leaf => exact h
  | un sk a b t ih =>
    simp only [Tm.text, List.all_append, Bool.and_eq_true] at hs
    refine ⟨?_, ih h.2 hs.2⟩
    have hs := hs.1
    rcases h.1 with ⟨hk, ha, hb⟩ | ⟨rfl, rfl, hb⟩ | ⟨hk, rfl, rfl⟩
    · left
      refine ⟨hk, ?_⟩
      rcases hk with rfl | rfl | rfl <;> simp at hs
      · exact ⟨name_small ha hs.1, name_small hb hs.2.2.1⟩
      · exact ⟨name_small ha hs.1, name_small hb hs.2.2.1⟩
      · exact ⟨name_small ha hs.2.1, name_small hb hs.2.2.2.1⟩
    · right; left
      simp at hs
      exact ⟨rfl, rfl, name_small hb hs.2.1⟩
    · right; right; exact ⟨hk, rfl, rfl⟩
  | bin sk a b t u ih1 ih2 =>
    simp only [Tm.text, List.all_cons, List.all_append, Bool.and_eq_true] at hs
    exact ⟨h.1, h.2.1, h.2.2.1, ih1 h.2.2.2.1 hs.2.1, ih2 h.2.2.2.2 hs.2.2.2.1⟩

end Go.Proofs.YtjgfgjhaghbehaaGreat.PsoPlace
namespace Go.Proofs.YtjgfgjhaghbehaaGreat.PsoPlace
open Go.RowKit Go.Proofs.YtjgfgjhaghbehaaGreatW.PrintWords Go.Proofs.YtjgfgjhaghbehaaGreatW.PrintLast Go.Proofs.YtjgfgjhaghbehaaGreatW.PrintMore
set_option linter.unusedVariables false
set_option linter.unusedSimpArgs false

theorem good_f (l : List UInt8) (k : Nat) (hk : 3000 ≤ k) : spec_tmGood.f k (B l) = some (readOk l) := by
  unfold spec_tmGood.f
  by_cases h300 : l.length ≤ 300
  · rw [if_pos (by rw [B_size]; omega)]
    have hsm : spec_tmSmall.f k (B l) = some (l.all smallB) := small_f l (by omega) 300 0 k l (At.start l) h300 (by omega)
    rw [hsm, Option.bind_some]
    by_cases hs : l.all smallB = true
    · rw [hs, if_pos rfl]
      obtain ⟨r, hr, hor⟩ := end_sound 300 l l 0 h300 (At.start l) (by omega)
      have hr := hr k (by omega)
      rw [show ((0 : Nat) : Int) = 0 from rfl] at hr
      rw [hr, Option.bind_some, B_size]
      by_cases hrl : r = (l.length : Int)
      · rw [if_pos hrl]
        rcases hor with rfl | ⟨t, rest, hw, hl, hrt⟩
        · omega
        · have hlen : l.length = t.text.length := by omega
          have hnil : rest = [] := by rw [hl] at hlen; simp at hlen; exact hlen
          subst hnil
          rw [List.append_nil] at hl
          subst hl
          have hwl := small_wf hw hs
          have hsz := size_le_text t
          rw [size_text t k hw (by omega) (by omega), Option.bind_some, read_text hwl]
          simp [h300]; omega
      · rw [if_neg hrl]
        rcases hg : readOk l with _ | _
        · rfl
        · obtain ⟨_, h1, h2, h3⟩ := read_good hg
          have hw := Wf.names (fun c => let_name) h2
          have e := end_text (parsed l).1 l [] 0 k hw (by rw [List.append_nil, ← h1]; exact At.start l) (by omega) (by omega)
          rw [← h1, show ((0 : Nat) : Int) = 0 from rfl, hr] at e
          exact absurd (Option.some.inj e) (by simpa using hrl)
    · rw [if_neg hs]
      rcases hg : readOk l with _ | _
      · rfl
      · obtain ⟨_, h1, h2, h3⟩ := read_good hg
        exact absurd (by rw [h1]; exact text_small h2) hs
  · rw [if_neg (by rw [B_size]; omega)]
    simp [readOk, h300]

end Go.Proofs.YtjgfgjhaghbehaaGreat.PsoPlace
