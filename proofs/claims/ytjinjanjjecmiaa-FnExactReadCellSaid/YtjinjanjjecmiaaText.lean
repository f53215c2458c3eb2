/- The text of a term, which terms are of signs and letters, and that the reader reads just these. No program in sight. -/
import Derived.Test.YtjinjanjjecmiaaParse
namespace Go.Proofs.Ytjinjanjjecmiaa

def Tm.text : Tm → List UInt8
  | .leaf _ _ _ => [48]
  | .un k a b t => (if k = 35 then [35, b, 46] else if k = 61 then [91, a, 61, b, 93] else if k = 42 then [42] else if k = 126 then [126, 46] else [a, k, b, 46]) ++ t.text
  | .bin k _ _ t u => 40 :: (t.text ++ k :: (u.text ++ [41]))

/-- A term of signs, whose names are letters by P. -/
def Wf (P : UInt8 → Bool) : Tm → Prop
  | .leaf k a b => k = 48 ∧ a = 0 ∧ b = 0
  | .un k a b t => ((k = 33 ∨ k = 63 ∨ k = 61) ∧ P a = true ∧ P b = true ∨ k = 35 ∧ a = 0 ∧ P b = true ∨ (k = 42 ∨ k = 126) ∧ a = 0 ∧ b = 0) ∧ Wf P t
  | .bin k a b t u => (k = 43 ∨ k = 38) ∧ a = 0 ∧ b = 0 ∧ Wf P t ∧ Wf P u

theorem nx_ok {st : St} (h : (nx st).2.2 = false) : st.2 = false ∧ st.1 = (nx st).1 :: (nx st).2.1 := by
  obtain ⟨l, b⟩ := st
  cases l with
  | nil => simp [nx] at h
  | cons c l => exact ⟨h, rfl⟩
theorem nm_ok {st : St} (h : (nm st).2.2 = false) : st.2 = false ∧ isLet (nm st).1 = true ∧ st.1 = (nm st).1 :: (nm st).2.1 := by
  simp only [nm, Bool.or_eq_false_iff, Bool.not_eq_false'] at h
  obtain ⟨h1, h2⟩ := nx_ok h.1
  exact ⟨h1, h.2, h2⟩
theorem nd_ok {c : UInt8} {st : St} (h : (nd c st).2 = false) : st.2 = false ∧ st.1 = c :: (nd c st).1 := by
  simp only [nd, Bool.or_eq_false_iff, Bool.not_eq_false', decide_eq_true_eq] at h
  obtain ⟨h1, h2⟩ := nx_ok h.1
  refine ⟨h1, ?_⟩
  rw [h2, h.2]; rfl
theorem bad_ok {b : Bool} {st : St} (h : (bad b st).2 = false) : st.2 = false ∧ b = false := by
  simpa only [bad, Bool.or_eq_false_iff] using h

/-- What the reader reads well is the text of what it hands back. -/
theorem pT_sound (n : Nat) : ∀ st : St, mu st < n → (pT n st).2.2 = false → st.2 = false ∧ st.1 = (pT n st).1.text ++ (pT n st).2.1 ∧ Wf isLet (pT n st).1 := by
  induction n with
  | zero => intro st h; omega
  | succ n ih =>
    intro st hmu hg
    by_cases hb : st.2 = true
    · rw [pT_bad _ hb] at hg; exact absurd (hg.symm.trans hb) (by decide)
    have hb' : st.2 = false := by simpa using hb
    have hL : Less (nx st).2 st.1.length := nx_less (Nat.le_refl _)
    have hk := mu_step hb' hmu
    simp only [pT, hb', Bool.false_eq_true, if_false] at hg ⊢
    split at hg
    · rename_i h1
      rw [if_pos h1]
      obtain ⟨_, h⟩ := nx_ok hg
      exact ⟨trivial, by rw [h, h1]; rfl, rfl, rfl, rfl⟩
    rename_i h1
    rw [if_neg h1]
    split at hg
    · rename_i h2
      rw [if_pos h2]
      obtain ⟨g1, g2, g3⟩ := ih _ (Less.mu (((hL.nx.bad _).nm).nd _) hk) hg
      obtain ⟨g4, g5⟩ := nd_ok g1
      obtain ⟨g6, g7, g8⟩ := nm_ok g4
      obtain ⟨g9, g10⟩ := bad_ok g6
      obtain ⟨g11, g12⟩ := nx_ok g9
      obtain ⟨_, g14⟩ := nx_ok g11
      have hk2 : (nx (nx st).2).1 = 33 ∨ (nx (nx st).2).1 = 63 := by
        by_cases a : (nx (nx st).2).1 = 33
        · exact .inl a
        · by_cases b : (nx (nx st).2).1 = 63
          · exact .inr b
          · simp [a, b] at g10
      refine ⟨trivial, ?_, ⟨.inl ⟨by rcases hk2 with h | h <;> simp [h], h2, g7⟩, g3⟩⟩
      have e1 : (bad (((nx (nx st).2).1) != 33 && ((nx (nx st).2).1) != 63) (nx (nx st).2).2).1 = (nx (nx st).2).2.1 := rfl
      rw [g14, g12, ← e1, g8, g5, g2]
      rcases hk2 with h | h <;> simp [Tm.text, h]
    rename_i h2
    rw [if_neg h2]
    split at hg
    · rename_i h3
      rw [if_pos h3]
      obtain ⟨g1, g2, g3⟩ := ih _ (Less.mu (hL.nd _) hk) hg
      obtain ⟨g4, g5⟩ := nd_ok g1
      obtain ⟨_, g14⟩ := nx_ok g4
      exact ⟨trivial, by rw [g14, g5, g2, h3]; simp [Tm.text], .inr (.inr ⟨.inr rfl, rfl, rfl⟩), g3⟩
    rename_i h3
    rw [if_neg h3]
    split at hg
    · rename_i h4
      rw [if_pos h4]
      obtain ⟨g1, g2, g3⟩ := ih _ (Less.mu (hL.nm.nd _) hk) hg
      obtain ⟨g4, g5⟩ := nd_ok g1
      obtain ⟨g6, g7, g8⟩ := nm_ok g4
      obtain ⟨_, g14⟩ := nx_ok g6
      exact ⟨trivial, by rw [g14, g8, g5, g2, h4]; simp [Tm.text], .inr (.inl ⟨rfl, rfl, g7⟩), g3⟩
    rename_i h4
    rw [if_neg h4]
    split at hg
    · rename_i h5
      rw [if_pos h5]
      obtain ⟨g1, g2, g3⟩ := ih _ (Less.mu (((hL.nm.nd _).nm).nd _) hk) hg
      obtain ⟨g4, g5⟩ := nd_ok g1
      obtain ⟨g6, g7, g8⟩ := nm_ok g4
      obtain ⟨g9, g10⟩ := nd_ok g6
      obtain ⟨g11, g12, g13⟩ := nm_ok g9
      obtain ⟨_, g14⟩ := nx_ok g11
      exact ⟨trivial, by rw [g14, g13, g10, g8, g5, g2, h5]; simp [Tm.text], .inl ⟨.inr (.inr rfl), g12, g7⟩, g3⟩
    rename_i h5
    rw [if_neg h5]
    split at hg
    · rename_i h6
      rw [if_pos h6]
      obtain ⟨g1, g2, g3⟩ := ih _ (Less.mu hL hk) hg
      obtain ⟨_, g14⟩ := nx_ok g1
      exact ⟨trivial, by rw [g14, g2, h6]; simp [Tm.text], .inr (.inr ⟨.inl rfl, rfl, rfl⟩), g3⟩
    rename_i h6
    rw [if_neg h6]
    split at hg
    · rename_i h7
      rw [if_pos h7]
      obtain ⟨g1, g2⟩ := nd_ok hg
      obtain ⟨g3, g4, g5⟩ := ih _ (Less.mu ((((hL.pT n).nx).bad _)) hk) g1
      obtain ⟨g6, g7⟩ := bad_ok g3
      obtain ⟨g8, g9⟩ := nx_ok g6
      obtain ⟨g10, g11, g12⟩ := ih _ (Less.mu hL hk) g8
      obtain ⟨_, g14⟩ := nx_ok g10
      have hk2 : (nx (pT n (nx st).2).2).1 = 43 ∨ (nx (pT n (nx st).2).2).1 = 38 := by
        by_cases a : (nx (pT n (nx st).2).2).1 = 43
        · exact .inl a
        · by_cases b : (nx (pT n (nx st).2).2).1 = 38
          · exact .inr b
          · simp [a, b] at g7
      refine ⟨trivial, ?_, hk2, rfl, rfl, g12, g5⟩
      have e1 : (bad ((nx (pT n (nx st).2).2).1 != 43 && (nx (pT n (nx st).2).2).1 != 38) (nx (pT n (nx st).2).2).2).1 = (nx (pT n (nx st).2).2).2.1 := rfl
      rw [g14, g11, g9, ← e1, g4, h7]
      simp only [Tm.text]
      rw [g2]
      simp
    rename_i h7
    rw [if_neg h7]
    have := (ih _ (Less.mu (hL.bad true) hk) hg).1
    simp [bad] at this

theorem size_le_text (t : Tm) : t.size ≤ t.text.length := by
  induction t with
  | leaf => simp [Tm.size, Tm.text]
  | un k a b t ih => simp only [Tm.size, Tm.text, List.length_append]; repeat' split
                     all_goals simp; omega
  | bin k a b t u ih1 ih2 => simp [Tm.size, Tm.text]; omega

theorem let_ne {c : UInt8} (h : isLet c = true) : c ≠ 48 ∧ c ≠ 126 ∧ c ≠ 35 ∧ c ≠ 91 ∧ c ≠ 42 ∧ c ≠ 40 := by
  refine ⟨?_, ?_, ?_, ?_, ?_, ?_⟩ <;> (rintro rfl; exact absurd h (by decide))

/-- The reader reads the text of a term whose names are letters. -/
theorem pT_complete (t : Tm) : ∀ (n : Nat) (rest : List UInt8), Wf isLet t → t.text.length < n → pT n (t.text ++ rest, false) = (t, (rest, false)) := by
  induction t with
  | leaf k a b =>
    intro n rest ⟨h1, h2, h3⟩ hn
    obtain ⟨n, rfl⟩ : ∃ m, n = m + 1 := ⟨n - 1, by omega⟩
    subst h1 h2 h3
    simp [pT, Tm.text, nx]
  | un k a b t ih =>
    intro n rest ⟨h, hw⟩ hn
    obtain ⟨n, rfl⟩ : ∃ m, n = m + 1 := ⟨n - 1, by omega⟩
    have hlt : t.text.length < n := by
      simp only [Tm.text, List.length_append] at hn
      revert hn; repeat' split
      all_goals simp; omega
    have ih := ih n rest hw hlt
    rcases h with ⟨hk, ha, hb⟩ | ⟨rfl, rfl, hb⟩ | ⟨hk, rfl, rfl⟩
    · obtain ⟨n1, n2, n3, n4, n5, n6⟩ := let_ne ha
      rcases hk with rfl | rfl | rfl
      · simp [pT, Tm.text, nx, n1, ha, nm, nd, hb, bad, ih]
      · simp [pT, Tm.text, nx, n1, ha, nm, nd, hb, bad, ih]
      · simp [pT, Tm.text, nx, nm, nd, hb, ha, ih, show isLet 91 = false from by decide]
    · simp [pT, Tm.text, nx, nm, nd, hb, ih, show isLet 35 = false from by decide]
    · rcases hk with rfl | rfl
      · simp [pT, Tm.text, nx, ih, show isLet 42 = false from by decide]
      · simp [pT, Tm.text, nx, nd, ih, show isLet 126 = false from by decide]
  | bin k a b t u ih1 ih2 =>
    intro n rest h hn
    obtain ⟨hk, rfl, rfl, hw1, hw2⟩ := h
    obtain ⟨n, rfl⟩ : ∃ m, n = m + 1 := ⟨n - 1, by omega⟩
    simp [Tm.text] at hn
    have e1 := ih1 n (k :: (u.text ++ 41 :: rest)) hw1 (by omega)
    have e2 := ih2 n (41 :: rest) hw2 (by omega)
    rcases hk with rfl | rfl <;> simp [pT, Tm.text, nx, nd, bad, e1, e2, show isLet 40 = false from by decide]

/-- What parse hands back: the term, and whether the text is one of signs. -/
def parsed (l : List UInt8) : Tm × St := pT (l.length + 2) (l, false)
def parseOk (l : List UInt8) : Bool := !(parsed l).2.2 && decide ((parsed l).2.1 = [])

def readOk (l : List UInt8) : Bool := decide (l.length ≤ 300) && (parseOk l && decide ((parsed l).1.size ≤ 60))
/-- What is read well is the text of its term. -/
theorem parse_good {l : List UInt8} (h : parseOk l = true) : l = (parsed l).1.text ∧ Wf isLet (parsed l).1 := by
  simp only [parseOk, Bool.and_eq_true, Bool.not_eq_true', decide_eq_true_eq] at h
  obtain ⟨_, h1, h2⟩ := pT_sound (l.length + 2) (l, false) (by simp [mu]) h.1
  refine ⟨?_, h2⟩
  have h3 : (pT (l.length + 2) (l, false)).2.1 = [] := h.2
  rw [h3, List.append_nil] at h1
  exact h1
theorem parse_text {t : Tm} (h : Wf isLet t) : parsed t.text = (t, ([], false)) ∧ parseOk t.text = true := by
  have e : parsed t.text = (t, ([], false)) := by
    have := pT_complete t (t.text.length + 2) [] h (by omega)
    rw [List.append_nil] at this
    exact this
  exact ⟨e, by simp [parseOk, e]⟩

/-- What is read well: a text of at most 300 bytes and 60 signs. -/
theorem read_good {l : List UInt8} (h : readOk l = true) : l.length ≤ 300 ∧ l = (parsed l).1.text ∧ Wf isLet (parsed l).1 ∧ (parsed l).1.size ≤ 60 := by
  simp only [readOk, Bool.and_eq_true, decide_eq_true_eq] at h
  exact ⟨h.1, (parse_good h.2.1).1, (parse_good h.2.1).2, h.2.2⟩
theorem read_text {t : Tm} (h : Wf isLet t) : readOk t.text = (decide (t.text.length ≤ 300) && decide (t.size ≤ 60)) := by
  simp [readOk, parse_text h]

/-- A sign's or a letter's one byte, as Go makes a string of it. -/
theorem enc_small {c : UInt8} (h : vl c < 128) : Utf8.encode (vl c) = B [c] := by
  have hv : Utf8.valid (vl c) = true := by
    have := vl_range c
    simp [Utf8.valid]; omega
  have hn : (vl c).toNat = c.toNat := by simp [vl]
  have hlt : c.toNat < 128 := by unfold vl at h; omega
  unfold Utf8.encode
  simp only [hv, if_true, hn]
  rw [if_pos (by omega)]
  simp [B]
theorem kind_small {t : Tm} {P : UInt8 → Bool} (h : Wf P t) : vl t.kind < 128 := by
  cases t with
  | leaf => obtain ⟨rfl, _⟩ := h; simp only [Tm.kind]; decide
  | un =>
    rcases h.1 with ⟨h, _⟩ | ⟨h, _⟩ | ⟨h, _⟩
    · rcases h with rfl | rfl | rfl <;> simp only [Tm.kind] <;> decide
    · subst h; simp only [Tm.kind]; decide
    · rcases h with rfl | rfl <;> simp only [Tm.kind] <;> decide
  | bin => rcases h.1 with rfl | rfl <;> simp only [Tm.kind] <;> decide
theorem let_lt {c : UInt8} (h : isLet c = true) : vl c < 128 := by simp [isLet] at h; omega

end Go.Proofs.Ytjinjanjjecmiaa
