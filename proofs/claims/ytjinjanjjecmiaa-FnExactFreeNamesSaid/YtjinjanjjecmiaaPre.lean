/- The signs of a term in order. No program in sight. -/
import Derived.Test.YtjinjanjjecmiaaText
namespace Go.Proofs.Ytjinjanjjecmiaa

/-- The signs of a term, the whole first. -/
def pre : Tm → List Tm
  | .leaf k a b => [.leaf k a b]
  | .un k a b t => .un k a b t :: pre t
  | .bin k a b t u => .bin k a b t u :: (pre t ++ pre u)
theorem pre_kids (t : Tm) : pre t = t :: (t.kids.map pre).flatten := by cases t <;> simp [pre, Tm.kids]
def pres (l : List Tm) : List Tm := (l.map pre).flatten
theorem pres_take_succ (l : List Tm) (i : Nat) (h : i < l.length) : pres (l.take (i + 1)) = pres (l.take i) ++ pre l[i] := by
  unfold pres; rw [List.take_succ_eq_append_getElem h, List.map_append, List.flatten_append]; simp

/-- How many signs are of a kind. -/
def cnt (c : UInt8) : Tm → Nat
  | .leaf k _ _ => if k = c then 1 else 0
  | .un k _ _ t => (if k = c then 1 else 0) + cnt c t
  | .bin k _ _ t u => (if k = c then 1 else 0) + cnt c t + cnt c u
theorem cnt_pre (c : UInt8) (t : Tm) : cnt c t = (pre t).countP fun u => u.kind == c := by
  induction t with
  | leaf => simp [cnt, pre, Tm.kind]
  | un k a b t ih => simp only [cnt, pre, Tm.kind, List.countP_cons, ih, beq_iff_eq]; omega
  | bin k a b t u ih1 ih2 => simp only [cnt, pre, Tm.kind, List.countP_cons, List.countP_append, ih1, ih2, beq_iff_eq]; omega
theorem wf_pre {P : UInt8 → Bool} {t : Tm} (h : Wf P t) : ∀ u, u ∈ pre t → Wf P u := by
  induction t with
  | leaf => intro u hu; simp only [pre, List.mem_singleton] at hu; subst hu; exact h
  | un k a b t ih =>
    intro u hu; simp only [pre, List.mem_cons] at hu
    rcases hu with rfl | hu
    · exact h
    · exact ih h.2 u hu
  | bin k a b t u ih1 ih2 =>
    intro v hv; simp only [pre, List.mem_cons, List.mem_append] at hv
    rcases hv with rfl | hv | hv
    · exact h
    · exact ih1 h.2.2.2.1 v hv
    · exact ih2 h.2.2.2.2 v hv

end Go.Proofs.Ytjinjanjjecmiaa
