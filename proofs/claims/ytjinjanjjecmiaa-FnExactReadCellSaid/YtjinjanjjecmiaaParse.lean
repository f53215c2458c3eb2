/- The reader of the program as a Lean function on what is left of the text. No program in sight. -/
import Derived.Test.YtjinjanjjecmiaaTree
namespace Go.Proofs.Ytjinjanjjecmiaa

/-- What is left to read, and whether something was wrong. -/
abbrev St := List UInt8 × Bool
def isLet (c : UInt8) : Bool := decide (97 ≤ vl c) && decide (vl c ≤ 122)
/-- next: takes a byte. -/
def nx : St → UInt8 × St
  | ([], _) => (0, ([], true))
  | (c :: l, b) => (c, (l, b))
/-- name: takes a name. -/
def nm (st : St) : UInt8 × St := ((nx st).1, ((nx st).2.1, (nx st).2.2 || !isLet (nx st).1))
/-- need: takes a byte that has to be there. -/
def nd (c : UInt8) (st : St) : St := ((nx st).2.1, (nx st).2.2 || !decide ((nx st).1 = c))
/-- The state gets bad if a condition holds. -/
def bad (b : Bool) (st : St) : St := (st.1, st.2 || b)

/-- reader.term. -/
def pT : Nat → St → Tm × St
  | 0, st => (.leaf 48 0 0, st)
  | n + 1, st =>
    if st.2 = true then (.leaf 48 0 0, st)
    else
      let c := (nx st).1
      let st1 := (nx st).2
      if c = 48 then (.leaf 48 0 0, st1)
      else if isLet c = true then
        let k := (nx st1).1
        let st2 := bad (k != 33 && k != 63) (nx st1).2
        let b := (nm st2).1
        let st3 := nd 46 (nm st2).2
        (.un k c b (pT n st3).1, (pT n st3).2)
      else if c = 126 then (.un 126 0 0 (pT n (nd 46 st1)).1, (pT n (nd 46 st1)).2)
      else if c = 35 then
        let b := (nm st1).1
        let st3 := nd 46 (nm st1).2
        (.un 35 0 b (pT n st3).1, (pT n st3).2)
      else if c = 91 then
        let a := (nm st1).1
        let st2 := nd 61 (nm st1).2
        let b := (nm st2).1
        let st3 := nd 93 (nm st2).2
        (.un 61 a b (pT n st3).1, (pT n st3).2)
      else if c = 42 then (.un 42 0 0 (pT n st1).1, (pT n st1).2)
      else if c = 40 then
        let one := (pT n st1).1
        let st2 := (pT n st1).2
        let k := (nx st2).1
        let st3 := bad (k != 43 && k != 38) (nx st2).2
        (.bin k 0 0 one (pT n st3).1, nd 41 (pT n st3).2)
      else (.un 48 0 0 (pT n (bad true st1)).1, (pT n (bad true st1)).2)

/-- The measure of a state: a bad one takes no call more. -/
def mu (st : St) : Nat := if st.2 = true then 0 else st.1.length + 1
theorem nx_len (st : St) : (nx st).2.1.length ≤ st.1.length := by
  obtain ⟨l, b⟩ := st; cases l <;> simp [nx]
theorem nm_len (st : St) : (nm st).2.1.length ≤ st.1.length := nx_len st
theorem nd_len (c : UInt8) (st : St) : (nd c st).1.length ≤ st.1.length := nx_len st
/-- Fewer than k bytes are left, or it is bad. -/
def Less (st : St) (k : Nat) : Prop := st.2 = true ∨ st.1.length < k
theorem nx_less {st : St} {k : Nat} (h : st.1.length ≤ k) : Less (nx st).2 k := by
  obtain ⟨l, b⟩ := st
  cases l with
  | nil => exact .inl rfl
  | cons c l => right; simp [nx] at *; omega
theorem Less.nx {st : St} {k : Nat} (h : Less st k) : Less (nx st).2 k := by
  rcases h with h | h
  · left; obtain ⟨l, b⟩ := st; cases l <;> simp_all [Go.Proofs.Ytjinjanjjecmiaa.nx]
  · exact .inr (Nat.lt_of_le_of_lt (nx_len st) h)
theorem Less.bad {st : St} {k : Nat} (h : Less st k) (b : Bool) : Less (bad b st) k := by
  rcases h with h | h
  · left; simp [Go.Proofs.Ytjinjanjjecmiaa.bad, h]
  · exact .inr h
theorem Less.nm {st : St} {k : Nat} (h : Less st k) : Less (nm st).2 k := h.nx.bad _
theorem Less.nd {st : St} {k : Nat} (h : Less st k) (c : UInt8) : Less (nd c st) k := h.nx.bad _
theorem Less.mu {st : St} {k n : Nat} (h : Less st k) (hk : k < n) : mu st < n := by
  unfold Go.Proofs.Ytjinjanjjecmiaa.mu
  rcases h with h | h
  · rw [if_pos h]; omega
  · split <;> omega
theorem pT_len (n : Nat) : ∀ st : St, (pT n st).2.1.length ≤ st.1.length := by
  induction n with
  | zero => intro st; exact Nat.le_refl _
  | succ n ih =>
    intro st
    have h1 := nx_len st
    simp only [pT]
    split
    · exact Nat.le_refl _
    split
    · exact h1
    split
    · exact Nat.le_trans (ih _) (Nat.le_trans (nd_len _ _) (Nat.le_trans (nm_len _) (Nat.le_trans (nx_len _) h1)))
    split
    · exact Nat.le_trans (ih _) (Nat.le_trans (nd_len _ _) h1)
    split
    · exact Nat.le_trans (ih _) (Nat.le_trans (nd_len _ _) (Nat.le_trans (nm_len _) h1))
    split
    · exact Nat.le_trans (ih _) (Nat.le_trans (nd_len _ _) (Nat.le_trans (nm_len _) (Nat.le_trans (nd_len _ _) (Nat.le_trans (nm_len _) h1))))
    split
    · exact Nat.le_trans (ih _) h1
    split
    · refine Nat.le_trans (nd_len _ _) (Nat.le_trans (ih _) ?_)
      exact Nat.le_trans (nx_len _) (Nat.le_trans (ih _) h1)
    · exact Nat.le_trans (ih _) h1
theorem pT_bad (n : Nat) {st : St} (h : st.2 = true) : pT n st = (.leaf 48 0 0, st) := by
  cases n <;> simp [pT, h]
theorem Less.pT {st : St} {k : Nat} (h : Less st k) (n : Nat) : Less (pT n st).2 k := by
  rcases h with h | h
  · rw [pT_bad n h]; exact .inl h
  · exact .inr (Nat.lt_of_le_of_lt (pT_len n st) h)
/-- The states to which a good one is handed on are of a smaller measure. -/
theorem mu_step {st : St} {n : Nat} (hb : st.2 = false) (h : mu st < n + 1) : st.1.length < n := by
  unfold mu at h; rw [hb] at h; simp at h; omega

end Go.Proofs.Ytjinjanjjecmiaa
