/- Names in order, none twice: sets of letters as texts. No program in sight. -/
import Derived.Test.YtjinjanjjecmiaaSet
namespace Go.Proofs.Ytjinjanjjecmiaa
open Go.RowKit Go.Proofs.YtjinjanjjecmiaaW.PrintWords Go.Proofs.YtjinjanjjecmiaaW.PrintMore

/-- The letters that are in, in order. -/
def sortL (p : UInt8 → Bool) : List UInt8 := (letsFrom 0).filter p
/-- Those with an index below i. -/
def sortTo (p : UInt8 → Bool) (i : Nat) : List UInt8 := ((List.range i).map letAt).filter p
theorem sortTo_all (p : UInt8 → Bool) : sortTo p 26 = sortL p := by
  unfold sortTo sortL letsFrom
  simp only [Nat.zero_add, Nat.sub_zero]
theorem sortTo_succ (p : UInt8 → Bool) (i : Nat) : sortTo p (i + 1) = sortTo p i ++ if p (letAt i) then [letAt i] else [] := by
  unfold sortTo
  rw [List.range_succ, List.map_append, List.filter_append]
  congr 1
  cases h : p (letAt i) <;> simp [h]
theorem sortTo_len (p : UInt8 → Bool) (i : Nat) : (sortTo p i).length ≤ i := by
  unfold sortTo
  exact Nat.le_trans (List.length_filter_le _ _) (by simp)

/-- A letter put into a text in order, none twice. -/
def insL (c : UInt8) : List UInt8 → List UInt8
  | [] => [c]
  | d :: l => if vl d < vl c then d :: insL c l else if d = c then d :: l else c :: d :: l
theorem insL_cons (c d : UInt8) (l : List UInt8) : insL c (d :: l) = if vl d < vl c then d :: insL c l else if d = c then d :: l else c :: d :: l := rfl
def bothL (s t : List UInt8) : List UInt8 := t.foldl (fun s c => insL c s) s
theorem insL_len (c : UInt8) (l : List UInt8) : (insL c l).length ≤ l.length + 1 := by
  induction l with
  | nil => simp [insL]
  | cons d l ih => unfold insL; repeat' split
                   all_goals (simp only [List.length_cons]; try omega)
theorem mem_from {i : Nat} {c : UInt8} : c ∈ letsFrom i ↔ ∃ j, i ≤ j ∧ j < 26 ∧ c = letAt j := by
  unfold letsFrom
  simp only [List.mem_map, List.mem_range]
  constructor
  · rintro ⟨k, hk, rfl⟩; exact ⟨i + k, by omega, by omega, rfl⟩
  · rintro ⟨j, h1, h2, rfl⟩; exact ⟨j - i, by omega, by congr 1; omega⟩
theorem letAt_inj {i j : Nat} (hi : i < 150) (hj : j < 150) (h : letAt i = letAt j) : i = j := by
  have := congrArg vl h
  rw [letAt_vl hi, letAt_vl hj] at this
  omega
theorem insL_before {c : UInt8} {l : List UInt8} (h : ∀ d, d ∈ l → vl c < vl d) : insL c l = c :: l := by
  cases l with
  | nil => rfl
  | cons d l =>
    have h1 := h d (by simp)
    unfold insL
    rw [if_neg (by omega), if_neg (by rintro rfl; omega)]
theorem ins_from (p : UInt8 → Bool) (j : Nat) (hj : j < 26) (n : Nat) : ∀ i, i + n = j → insL (letAt j) ((letsFrom i).filter p) = (letsFrom i).filter (orS p (eqS (letAt j))) := by
  induction n with
  | zero =>
    intro i hi
    obtain rfl : i = j := by omega
    rw [letsFrom_step hj]
    have hrest : (letsFrom (i + 1)).filter (orS p (eqS (letAt i))) = (letsFrom (i + 1)).filter p := by
      apply List.filter_congr
      intro d hd
      obtain ⟨k, h1, h2, rfl⟩ := mem_from.mp hd
      have : letAt k ≠ letAt i := fun e => by have := letAt_inj (by omega) (by omega) e; omega
      simp [orS, eqS, this]
    rw [List.filter_cons, List.filter_cons, hrest, if_pos (show orS p (eqS (letAt i)) (letAt i) = true from by simp [orS, eqS])]
    by_cases hp : p (letAt i) = true
    · rw [if_pos hp]
      unfold insL
      rw [if_neg (by omega), if_pos rfl]
    · rw [if_neg hp]
      apply insL_before
      intro d hd
      obtain ⟨k, h1, h2, rfl⟩ := mem_from.mp (List.mem_filter.mp hd).1
      rw [letAt_vl (by omega), letAt_vl (by omega)]; omega
  | succ n ih =>
    intro i hi
    have hlt : i < 26 := by omega
    rw [letsFrom_step hlt, List.filter_cons, List.filter_cons, ← ih (i + 1) (by omega)]
    have hne : ¬ letAt i = letAt j := fun e => by have := letAt_inj (by omega) (by omega) e; omega
    have ho : orS p (eqS (letAt j)) (letAt i) = p (letAt i) := by simp [orS, eqS, hne]
    rw [ho]
    by_cases hp : p (letAt i) = true
    · rw [if_pos hp, if_pos hp]
      conv => lhs; unfold insL
      rw [if_pos (by rw [letAt_vl (by omega), letAt_vl (by omega)]; omega)]
    · rw [if_neg hp, if_neg hp]
theorem ins_sort (p : UInt8 → Bool) {c : UInt8} (hc : isLet c = true) : insL c (sortL p) = sortL (orS p (eqS c)) := by
  obtain ⟨j, hj, rfl⟩ := isLet_iff.mp hc
  exact ins_from p j hj j 0 (by omega)
theorem both_sort (t : List UInt8) : ∀ (p : UInt8 → Bool), (∀ c, c ∈ t → isLet c = true) → bothL (sortL p) t = sortL (orS p (inS t)) := by
  induction t with
  | nil => intro p _; show sortL p = _; congr 1; funext c; simp [orS, inS]
  | cons d t ih =>
    intro p h
    show bothL (insL d (sortL p)) t = _
    rw [ins_sort p (h d (by simp)), ih _ fun c hc => h c (by simp [hc])]
    congr 1
    funext c
    simp only [orS, inS, eqS, List.contains_cons, Bool.or_assoc]
theorem sort_congr {p q : UInt8 → Bool} (h : ∀ c, isLet c = true → p c = q c) : sortL p = sortL q :=
  List.filter_congr fun c hc => h c (mem_lets.mp hc)
theorem sort_mem {p : UInt8 → Bool} {c : UInt8} : c ∈ sortL p ↔ isLet c = true ∧ p c = true := by
  unfold sortL; rw [List.mem_filter, mem_lets]
theorem sort_both (p q : UInt8 → Bool) : bothL (sortL p) (sortL q) = sortL (orS p q) := by
  rw [both_sort _ _ fun c hc => (sort_mem.mp hc).1]
  apply sort_congr
  intro c hc
  have : inS (sortL q) c = q c := by
    unfold inS
    rw [Bool.eq_iff_iff, List.contains_iff_mem, sort_mem]
    simp [hc]
  simp [orS, this]
theorem sort_less (p : UInt8 → Bool) (c : UInt8) : (sortL p).filter (fun d => d != c) = sortL (minusS p (eqS c)) := by
  unfold sortL
  rw [List.filter_filter]
  apply List.filter_congr
  intro d _
  simp only [minusS, eqS, bne]
  cases p d <;> cases d == c <;> rfl
theorem sort_len (p : UInt8 → Bool) : (sortL p).length ≤ 26 := by rw [← sortTo_all]; exact sortTo_len p 26
theorem sort_no : sortL noS = [] := by simp [sortL, noS]

end Go.Proofs.Ytjinjanjjecmiaa
