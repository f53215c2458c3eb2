/- Formulas as trees: text, depth, reading. No program in sight. -/
import Derived.Test.YteepgblpoddcfaaBase
import Derived.Lib.IndexLaws
namespace Go.Proofs.Yteepgblpoddcfaa
open Go.RowKit Go.Proofs.YteepgblpoddcfaaW.PrintWords
set_option linter.unusedVariables false
set_option linter.unusedSimpArgs false

inductive Fm where
  | tt
  | neg (f : Fm)
  | lab (l : List UInt8) (f : Fm)
  | conj (f g : Fm)
namespace Fm
def text : Fm → List UInt8
  | tt => [84]
  | neg f => 33 :: f.text
  | lab l f => 60 :: (l ++ 62 :: f.text)
  | conj f g => 40 :: (f.text ++ 38 :: (g.text ++ [41]))
def kind : Fm → UInt8 | tt => 84 | neg _ => 33 | lab _ _ => 60 | conj _ _ => 40
def lb : Fm → List UInt8 | lab l _ => l | _ => []
def kids : Fm → List Fm | tt => [] | neg f => [f] | lab _ f => [f] | conj f g => [f, g]
def depth : Fm → Nat | tt => 0 | neg f => f.depth | lab _ f => f.depth + 1 | conj f g => max f.depth g.depth
def size : Fm → Nat | tt => 1 | neg f => 1 + f.size | lab _ f => 1 + f.size | conj f g => 1 + f.size + g.size
end Fm
def labB : List UInt8 → Bool
  | [a] => a == 126
  | [a, x, b] => (x == 33 || x == 63) && (isLet a && isLet b)
  | [a, x, y, b] => (x == 33 && y == 35) && (isLet a && isLet b)
  | _ => false
theorem let_62 {a : UInt8} (h : isLet a = true) : a ≠ 62 := by rintro rfl; exact absurd h (by decide)
theorem labB_facts {l : List UInt8} (h : labB l = true) : 1 ≤ l.length ∧ l.length ≤ 4 ∧ ∀ c, c ∈ l → c ≠ 62 := by
  match l, h with
  | [a], h =>
    simp only [labB, beq_iff_eq] at h; subst h
    exact ⟨by simp, by simp, fun c hc => by simp at hc; subst hc; decide⟩
  | [a, x, b], h =>
    simp only [labB, Bool.and_eq_true, Bool.or_eq_true, beq_iff_eq] at h
    refine ⟨by simp, by simp, fun c hc => ?_⟩
    simp only [List.mem_cons, List.not_mem_nil, or_false] at hc
    rcases hc with rfl | rfl | rfl
    · exact let_62 h.2.1
    · rcases h.1 with rfl | rfl <;> decide
    · exact let_62 h.2.2
  | [a, x, y, b], h =>
    simp only [labB, Bool.and_eq_true, beq_iff_eq] at h
    refine ⟨by simp, by simp, fun c hc => ?_⟩
    simp only [List.mem_cons, List.not_mem_nil, or_false] at hc
    rcases hc with rfl | rfl | rfl | rfl
    · exact let_62 h.2.1
    · rw [h.1.1]; decide
    · rw [h.1.2]; decide
    · exact let_62 h.2.2
theorem idx_lab : ∀ (l t : List UInt8), (∀ c, c ∈ l → c ≠ 62) → Lib.indexByte (l ++ 62 :: t) 62 = l.length := by
  intro l t h
  induction l with
  | nil => simp [Lib.indexByte]
  | cons a l ih =>
    have ha : a ≠ 62 := h a (by simp)
    have := ih fun c hc => h c (by simp [hc])
    simp only [List.cons_append, Lib.indexByte]
    rw [if_neg (by simpa using ha), this, if_neg (by simp; try omega)]
    simp

def pF : Nat → List UInt8 → Option (Fm × List UInt8)
  | 0, _ => none
  | _ + 1, [] => none
  | n + 1, c :: r =>
    if c = 84 then some (.tt, r)
    else if c = 33 then (pF n r).map fun x => (.neg x.1, x.2)
    else if c = 60 then
      if 0 ≤ Lib.indexByte r 62 ∧ labB (r.take (Lib.indexByte r 62).toNat) = true then
        (pF n (r.drop ((Lib.indexByte r 62).toNat + 1))).map fun x => (.lab (r.take (Lib.indexByte r 62).toNat) x.1, x.2)
      else none
    else if c = 40 then
      (pF n r).bind fun x => match x.2 with
        | [] => none
        | d :: r2 => if d = 38 then (pF n r2).bind fun y => (match y.2 with | [] => none | e :: r3 => if e = 41 then some (.conj x.1 y.1, r3) else none) else none
    else none
def FWf : Fm → Prop
  | .tt => True
  | .neg f => FWf f
  | .lab l f => labB l = true ∧ FWf f
  | .conj f g => FWf f ∧ FWf g
theorem idx_split {r : List UInt8} (h : 0 ≤ Lib.indexByte r 62) : r = r.take (Lib.indexByte r 62).toNat ++ 62 :: r.drop ((Lib.indexByte r 62).toNat + 1) ∧ (Lib.indexByte r 62).toNat < r.length := by
  obtain ⟨o, ho⟩ : ∃ o : Nat, Lib.indexByte r 62 = o := ⟨(Lib.indexByte r 62).toNat, by omega⟩
  have h1 := (Lib.indexByte_some ho).1
  rw [ho, Int.toNat_natCast]
  obtain ⟨hlt, hv⟩ := List.getElem?_eq_some_iff.mp h1
  exact ⟨by rw [← hv, ← List.drop_eq_getElem_cons hlt, List.take_append_drop], hlt⟩
theorem pF_good : ∀ (n : Nat) (l : List UInt8) (f : Fm) (r : List UInt8), pF n l = some (f, r) → l = f.text ++ r ∧ FWf f := by
  intro n
  induction n with
  | zero => intro l f r h; simp [pF] at h
  | succ n ih =>
    intro l f r h
    cases l with
    | nil => simp [pF] at h
    | cons c l =>
      rw [pF] at h
      by_cases h1 : c = 84
      · rw [if_pos h1] at h
        injection h with h; injection h with h2 h3; subst h1 h2 h3
        exact ⟨rfl, trivial⟩
      rw [if_neg h1] at h
      by_cases h2 : c = 33
      · rw [if_pos h2] at h
        rcases hp : pF n l with _ | ⟨g, r'⟩
        · rw [hp] at h; simp at h
        · rw [hp] at h; simp only [Option.map_some, Option.some.injEq, Prod.mk.injEq] at h
          obtain ⟨rfl, rfl⟩ := h
          obtain ⟨e, hw⟩ := ih _ _ _ hp
          exact ⟨by rw [e, h2]; rfl, hw⟩
      rw [if_neg h2] at h
      by_cases h3 : c = 60
      · rw [if_pos h3] at h
        by_cases h4 : 0 ≤ Lib.indexByte l 62 ∧ labB (l.take (Lib.indexByte l 62).toNat) = true
        · rw [if_pos h4] at h
          obtain ⟨hs, _⟩ := idx_split h4.1
          rcases hp : pF n (l.drop ((Lib.indexByte l 62).toNat + 1)) with _ | ⟨g, r'⟩
          · rw [hp] at h; simp at h
          · rw [hp] at h; simp only [Option.map_some, Option.some.injEq, Prod.mk.injEq] at h
            obtain ⟨rfl, rfl⟩ := h
            obtain ⟨e, hw⟩ := ih _ _ _ hp
            refine ⟨?_, h4.2, hw⟩
            rw [h3]
            simp only [Fm.text, List.cons_append, List.append_assoc]
            rw [← e, ← hs]
        · rw [if_neg h4] at h; cases h
      rw [if_neg h3] at h
      by_cases h5 : c = 40
      · rw [if_pos h5] at h
        rcases hp : pF n l with _ | ⟨g, r'⟩
        · rw [hp] at h; simp at h
        · rw [hp] at h
          simp only [Option.bind_some] at h
          obtain ⟨e, hw⟩ := ih _ _ _ hp
          cases r' with
          | nil => simp at h
          | cons d r2 =>
            simp only at h
            by_cases h6 : d = 38
            · rw [if_pos h6] at h
              rcases hq : pF n r2 with _ | ⟨g2, r3⟩
              · rw [hq] at h; simp at h
              · rw [hq] at h
                simp only [Option.bind_some] at h
                obtain ⟨e2, hw2⟩ := ih _ _ _ hq
                cases r3 with
                | nil => simp at h
                | cons x r4 =>
                  simp only at h
                  by_cases h7 : x = 41
                  · rw [if_pos h7] at h
                    injection h with h; injection h with h8 h9; subst h8 h9
                    refine ⟨?_, hw, hw2⟩
                    rw [e, e2, h5, h6, h7]
                    simp [Fm.text]
                  · rw [if_neg h7] at h; cases h
            · rw [if_neg h6] at h; cases h
      · rw [if_neg h5] at h; cases h
theorem pF_text (f : Fm) : ∀ (n : Nat) (r : List UInt8), FWf f → f.text.length ≤ n → pF n (f.text ++ r) = some (f, r) := by
  induction f with
  | tt => intro n r _ h; obtain ⟨n, rfl⟩ : ∃ m, n = m + 1 := ⟨n - 1, by simp [Fm.text] at h; omega⟩; rfl
  | neg f ih =>
    intro n r hw h
    simp only [Fm.text, List.length_cons] at h
    obtain ⟨n, rfl⟩ : ∃ m, n = m + 1 := ⟨n - 1, by omega⟩
    simp only [Fm.text, List.cons_append, pF]
    rw [if_neg (by decide), if_pos trivial, ih n r hw (by omega)]; rfl
  | lab l f ih =>
    intro n r hw h
    simp only [Fm.text, List.length_cons, List.length_append] at h
    obtain ⟨n, rfl⟩ : ∃ m, n = m + 1 := ⟨n - 1, by omega⟩
    have hi := idx_lab l (f.text ++ r) (labB_facts hw.1).2.2
    simp only [Fm.text, List.cons_append, List.append_assoc, pF]
    rw [if_neg (by decide), if_neg (by decide), if_pos trivial, hi, Int.toNat_natCast]
    have e1 : (l ++ 62 :: (f.text ++ r)).take l.length = l := by simp
    have e2 : (l ++ 62 :: (f.text ++ r)).drop (l.length + 1) = f.text ++ r := by simp [List.drop_append]
    rw [e1, e2, if_pos ⟨by omega, hw.1⟩, ih n r hw.2 (by omega)]; rfl
  | conj f g ih1 ih2 =>
    intro n r hw h
    simp only [Fm.text, List.length_cons, List.length_append, List.length_nil] at h
    obtain ⟨n, rfl⟩ : ∃ m, n = m + 1 := ⟨n - 1, by omega⟩
    simp only [Fm.text, List.cons_append, List.append_assoc, pF]
    rw [if_neg (by decide), if_neg (by decide), if_neg (by decide), if_pos trivial, ih1 n _ hw.1 (by omega)]
    simp only [Option.bind_some]
    rw [if_pos trivial, ih2 n _ hw.2 (by omega)]
    simp

def fmOf (l : List UInt8) : Option Fm := if l.length ≤ 400 then match pF l.length l with | some (f, []) => some f | _ => none else none
theorem fmOf_good {l : List UInt8} {f : Fm} (h : fmOf l = some f) : l = f.text ∧ FWf f ∧ l.length ≤ 400 := by
  unfold fmOf at h
  by_cases hl : l.length ≤ 400
  · rw [if_pos hl] at h
    split at h
    · rename_i g hp
      injection h with h; subst h
      obtain ⟨h1, h2⟩ := pF_good _ _ _ _ hp
      exact ⟨by simpa using h1, h2, hl⟩
    · cases h
  · rw [if_neg hl] at h; cases h

end Go.Proofs.Yteepgblpoddcfaa
