/- Several texts in one.
   The reference's one name, and its text if it is a process.
   The reference's soPlace: where a free name stands among the free names of a process. -/
import Derived.Test.YtjgfgjhaghbehaaGreatRefssoPlace
import Derived.Test.YtjgfgjhaghbehaaGreatWithF2
import Derived.Test.YtjgfgjhaghbehaaGreatFreeAsoPlace
namespace Go.Proofs.YtjgfgjhaghbehaaGreat.PsoPlace
open Go.RowKit Go.Proofs.YtjgfgjhaghbehaaGreatW.PrintWords Go.Proofs.YtjgfgjhaghbehaaGreatW.PrintLast Go.Proofs.YtjgfgjhaghbehaaGreatW.PrintMore
set_option linter.unusedVariables false
set_option linter.unusedSimpArgs false

theorem one_f (l : List UInt8) : spec_tmOne.f (B l) = some (oneB l) := by
  match l with
  | [] => simp [spec_tmOne.f, B_size, oneB]
  | [c] =>
    simp only [spec_tmOne.f, B_size, bt_B]
    rw [if_pos (by rfl), if_pos (by simp)]
    show (if vl c ≥ 97 then some (decide (vl c ≤ 122)) else some false) = some (isLet c)
    unfold isLet
    by_cases h : vl c ≥ 97 <;> simp [h]
  | a :: b :: l =>
    simp only [spec_tmOne.f, B_size, List.length_cons]
    rw [if_neg (by omega)]; rfl
end Go.Proofs.YtjgfgjhaghbehaaGreat.PsoPlace
namespace Go.Proofs.YtjgfgjhaghbehaaGreat.PsoPlace
open Go.RowKit Go.Proofs.YtjgfgjhaghbehaaGreatW.PrintWords Go.Proofs.YtjgfgjhaghbehaaGreatW.PrintLast Go.Proofs.YtjgfgjhaghbehaaGreatW.PrintMore
set_option linter.unusedVariables false
set_option linter.unusedSimpArgs false

def idxL (c : UInt8) : List UInt8 → Option Nat
  | [] => none
  | d :: l => if d = c then some 0 else (idxL c l).map (· + 1)
theorem idxL_some {c : UInt8} {l : List UInt8} : (idxL c l).isSome = l.contains c := by
  induction l with
  | nil => rfl
  | cons d l ih =>
    unfold idxL
    by_cases h : d = c
    · subst h; simp
    · rw [if_neg h, Option.isSome_map, ih, List.contains_cons]
      have : (c == d) = false := by simpa using fun e : c = d => h e.symm
      rw [this, Bool.false_or]
theorem place_l (c : UInt8) (s : List UInt8) (hs : s.length ≤ 1000) (n : Nat) : ∀ (i k : Nat) (l : List UInt8), At s i l → l.length ≤ n → n < k → spec_soPlace.l0 k (B [c]) (B s) i = some (match idxL c l with | some j => (((i + j : Nat) : Int), true) | none => (0, false)) := by
  induction n with
  | zero =>
    intro i k l h hl hk
    have : l = [] := List.length_eq_zero_iff.mp (by omega)
    subst this
    obtain ⟨k, rfl⟩ : ∃ m, k = m + 1 := ⟨k - 1, by omega⟩
    rw [spec_soPlace.l0, h.size, if_neg (by simp)]; rfl
  | succ n ih =>
    intro i k l h hl hk
    obtain ⟨k, rfl⟩ : ∃ m, k = m + 1 := ⟨k - 1, by omega⟩
    cases l with
    | nil => rw [spec_soPlace.l0, h.size, if_neg (by simp)]; rfl
    | cons d l =>
      have hz := h.size
      have hn := h.len
      simp only [List.length_cons] at hz hl hn
      have e := ih (i + 1) k l h.step (by omega) (by omega)
      have w : wrap64 ((i : Int) + 1) = (i + 1 : Nat) := by rw [wrap_id (by omega) (by omega)]; omega
      have hx : (B s).extract ((i : Int)).toNat (((i + 1 : Nat) : Int)).toNat = B [d] := by
        obtain ⟨pre, rfl, rfl⟩ := h
        rw [B_extract, Int.toNat_natCast, Int.toNat_natCast]
        congr 1
        simp [List.take_append, List.drop_append]
      rw [spec_soPlace.l0, w, if_pos (by omega), if_pos (by omega), if_pos (by omega), if_pos (by omega), hx, B_toList, B_toList, e]
      by_cases hdc : d = c
      · subst hdc
        rw [if_pos rfl]
        simp [idxL]
      · rw [if_neg (by simpa using hdc)]
        simp only [idxL, if_neg hdc]
        cases idxL c l with
        | none => rfl
        | some j => simp only [Option.map_some]; congr 3; omega
def placeV (p a : List UInt8) : Nat := if withB p [a] = true then (idxL (a.headD 0) (sortL (parsed p).1.fr)).getD 0 else 0
theorem place_no (s t : ByteArray) : spec_soPlace.j0 4000 s t true = some (0, false) := by
  show spec_soPlace.j0 (3999 + 1) s t true = _
  rw [spec_soPlace.j0, if_pos rfl]
theorem place_yes (s t : ByteArray) : spec_soPlace.j0 4000 s t false = (spec_tmFree.f 3999 s).bind fun x => spec_soPlace.l0 3999 t x 0 := by
  show spec_soPlace.j0 (3999 + 1) s t false = _
  rw [spec_soPlace.j0, if_neg (by decide)]
theorem place_f (p a : List UInt8) : spec_soPlace.f 4000 (B p) (B a) = some (((placeV p a : Nat) : Int), withB p [a]) := by
  unfold spec_soPlace.f
  rw [good_f p 4000 (by omega), one_f]
  simp only [Option.bind_some]
  rcases h1 : readOk p with _ | _
  · have hw : withB p [a] = false := by simp [withB, h1]
    simp [placeV, hw, place_no]
  rcases h2 : oneB a with _ | _
  · have hw : withB p [a] = false := by simp [withB, freeB, h2]
    simp [placeV, hw, place_no]
  obtain ⟨c, rfl, hc⟩ := oneB_iff.mp h2
  obtain ⟨g1, g2, g3, g4⟩ := read_good h1
  have hfr := frees_text (parsed p).1 3999 g3 (by rw [← g2]; omega) (by omega)
  rw [← g2] at hfr
  have hsl := sort_len (parsed p).1.fr
  have hl := place_l c (sortL (parsed p).1.fr) (by omega) 30 0 3999 _ (At.start _) (by omega) (by omega)
  have hw : withB p [[c]] = (parsed p).1.fr c := by simp [withB, freeB, h1, h2]
  have hi := idxL_some (c := c) (l := sortL (parsed p).1.fr)
  have hm : (sortL (parsed p).1.fr).contains c = (parsed p).1.fr c := by
    rw [Bool.eq_iff_iff, List.contains_iff_mem, sort_mem]; simp [hc]
  rw [hm] at hi
  simp only [if_true, Bool.not_true]
  rw [place_yes, hfr, Option.bind_some]
  refine hl.trans ?_
  simp only [placeV, hw, List.headD_cons]
  cases hx : idxL c (sortL (parsed p).1.fr) with
  | none => rw [hx] at hi; simp only [Option.isSome_none] at hi; rw [← hi]; rfl
  | some j => rw [hx] at hi; simp only [Option.isSome_some] at hi; rw [← hi]; simp

end Go.Proofs.YtjgfgjhaghbehaaGreat.PsoPlace
