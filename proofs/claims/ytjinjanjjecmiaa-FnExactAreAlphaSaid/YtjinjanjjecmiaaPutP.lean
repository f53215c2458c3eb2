/- A term with another one at a path. No program in sight. -/
import Derived.Test.YtjinjanjjecmiaaAtW
namespace Go.Proofs.Ytjinjanjjecmiaa
open Go.RowKit Go.Proofs.YtjinjanjjecmiaaW.PrintWords

def putT (q : Tm) : List UInt8 → Tm → Tm
  | [], _ => q
  | c :: l, t => match t with
    | .leaf k a b => .leaf k a b
    | .un k a b t => .un k a b (putT q l t)
    | .bin k a b t u => if c = 48 then .bin k a b (putT q l t) u else .bin k a b t (putT q l u)
theorem put_wf {P : UInt8 → Bool} {q : Tm} (hq : Wf P q) (l : List UInt8) : ∀ {t : Tm}, Wf P t → Wf P (putT q l t) := by
  induction l with
  | nil => intro t _; exact hq
  | cons c l ih =>
    intro t h
    cases t with
    | leaf => exact h
    | un k a b t => exact ⟨h.1, ih h.2⟩
    | bin k a b t u =>
      simp only [putT]
      split
      · exact ⟨h.1, h.2.1, h.2.2.1, ih h.2.2.2.1, h.2.2.2.2⟩
      · exact ⟨h.1, h.2.1, h.2.2.1, h.2.2.2.1, ih h.2.2.2.2⟩
theorem put_len (q : Tm) (l : List UInt8) : ∀ t : Tm, (putT q l t).text.length ≤ t.text.length + q.text.length := by
  induction l with
  | nil => intro t; simp only [putT]; omega
  | cons c l ih =>
    intro t
    cases t with
    | leaf => simp only [putT]; omega
    | un k a b t => have := ih t; simp only [putT, Tm.text, List.length_append]; omega
    | bin k a b t u =>
      have h1 := ih t
      have h2 := ih u
      simp only [putT]
      split <;> simp only [Tm.text, List.length_append, List.length_cons, List.length_nil] <;> omega
theorem put_size (q : Tm) (l : List UInt8) : ∀ t : Tm, (putT q l t).size ≤ t.size + q.size := by
  induction l with
  | nil => intro t; simp only [putT]; omega
  | cons c l ih =>
    intro t
    cases t with
    | leaf => simp only [putT]; omega
    | un k a b t => have := ih t; simp only [putT, Tm.size]; omega
    | bin k a b t u =>
      have h1 := ih t
      have h2 := ih u
      simp only [putT]
      split <;> simp only [Tm.size] <;> omega
/-- A path that there is, by its first step. -/
theorem sub_step {t : Tm} {c : UInt8} {l : List UInt8} (h : (t.sub (c :: l)).isSome = true) :
    ∃ j, j < t.kids.length ∧ c.toNat = 48 + j ∧ ∃ hj : j < t.kids.length, (t.kids[j].sub l).isSome = true := by
  unfold Tm.sub at h
  split at h
  · rename_i h1
    exact ⟨c.toNat - 48, h1.2, by omega, h1.2, h⟩
  · cases h

end Go.Proofs.Ytjinjanjjecmiaa
