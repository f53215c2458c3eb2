/- Several texts in one.
   Strings as lists of bytes: the words of the printed functions (size, bt, extract, ++, toList) at a string that is given by its list. No program in sight.
   The terms of the program as a Lean type, and what it means that a term lies in memory. No program in sight.
   The reader of the program as a Lean function on what is left of the text. No program in sight.
   The text of a term, which terms are of signs and letters, and that the reader reads just these. No program in sight.
   What stands at a place of a text. No program in sight.
   A byte of a string as its number. No program in sight.
   The signs of a term in order. No program in sight.
   What guarded, simple and sends-last ask of one sign. No program in sight. -/
import Derived.Test.YtjgfgjhaghbehaaGreatWWords
import Derived.Deep.Draws
import Derived.Lib.Bytealg
namespace Go.Proofs.YtjgfgjhaghbehaaGreat
open Go.RowKit Go.Proofs.YtjgfgjhaghbehaaGreatW.PrintWords

def B (l : List UInt8) : ByteArray := ⟨l.toArray⟩
def vl (c : UInt8) : Int := c.toNat
theorem vl_range (c : UInt8) : 0 ≤ vl c ∧ vl c ≤ 255 := by have := c.toNat_lt; unfold vl; omega
theorem vl_inj {b c : UInt8} : vl b = vl c ↔ b = c := by unfold vl; rw [Int.ofNat_inj, UInt8.toNat_inj]
def at_ (l : List UInt8) (i : Nat) : Int := ((l[i]?).map vl).getD 0

theorem B_of (s : ByteArray) : ∃ l, s = B l := ⟨s.data.toList, by cases s; simp [B]⟩
theorem B_inj {l m : List UInt8} (h : B l = B m) : l = m := by simpa [B] using h
theorem B_size (l : List UInt8) : (B l).size = l.length := by simp [B, ByteArray.size]
theorem B_data (l : List UInt8) : (B l).data.toList = l := by simp [B]
theorem B_toList (l : List UInt8) : (B l).toList = l := by
  have h : ∀ (s : ByteArray) (n i : Nat) (r : List UInt8), s.size - i = n → ByteArray.toList.loop s i r = r.reverse ++ s.data.toList.drop i := by
    intro s n
    induction n with
    | zero =>
      intro i r h
      unfold ByteArray.toList.loop
      rw [if_neg (by omega), List.drop_eq_nil_of_le (by rw [data_length]; omega), List.append_nil]
    | succ n ih =>
      intro i r h
      have hi : i < s.size := by omega
      unfold ByteArray.toList.loop
      rw [if_pos hi, ih (i + 1) _ (by omega), List.reverse_cons, List.append_assoc]
      congr 1
      have hd : s.data.toList.drop i = s.data.toList[i]'(by rw [data_length]; exact hi) :: s.data.toList.drop (i + 1) := List.drop_eq_getElem_cons _
      rw [hd]
      simp [ByteArray.get!, getElem!_def]
      rw [Array.getElem?_eq_getElem (by exact hi)]
  unfold ByteArray.toList
  rw [h _ _ _ _ rfl]
  simp [B]
theorem B_append (l m : List UInt8) : B l ++ B m = B (l ++ m) := by
  apply ByteArray.ext
  simp [B]
theorem B_extract (l : List UInt8) (i j : Nat) : (B l).extract i j = B ((l.take j).drop i) := by
  apply ByteArray.ext
  simp [B, ByteArray.data_extract, List.extract_eq_take_drop, List.drop_take]
theorem bt_B (l : List UInt8) (i : Int) : bt (B l) i = at_ l i.toNat := by
  unfold bt at_
  by_cases h : i.toNat < l.length
  · rw [dif_pos (by rw [B_size]; exact h), List.getElem?_eq_getElem h]
    rfl
  · rw [dif_neg (by rw [B_size]; exact h), List.getElem?_eq_none (by omega)]
    rfl
theorem at_range (l : List UInt8) (i : Nat) : 0 ≤ at_ l i ∧ at_ l i ≤ 255 := by
  unfold at_
  cases l[i]? with
  | none => simp
  | some c => exact vl_range c
theorem at_cons_zero (c : UInt8) (l : List UInt8) : at_ (c :: l) 0 = vl c := rfl
theorem at_cons_succ (c : UInt8) (l : List UInt8) (i : Nat) : at_ (c :: l) (i + 1) = at_ l i := rfl
theorem at_append (l m : List UInt8) (i : Nat) : at_ (l ++ m) (l.length + i) = at_ m i := by
  unfold at_; rw [List.getElem?_append_right (by omega)]; simp
theorem at_mid (l : List UInt8) (c : UInt8) (m : List UInt8) : at_ (l ++ c :: m) l.length = vl c := by
  have := at_append l (c :: m) 0; simpa [at_cons_zero] using this
theorem at_left (l m : List UInt8) (i : Nat) (h : i < l.length) : at_ (l ++ m) i = at_ l i := by
  unfold at_; rw [List.getElem?_append_left h]
theorem wrap_id {x : Int} (h0 : -9223372036854775808 ≤ x) (h1 : x ≤ 9223372036854775807) : wrap64 x = x := by unfold wrap64; omega

end Go.Proofs.YtjgfgjhaghbehaaGreat
namespace Go.Proofs.YtjgfgjhaghbehaaGreat
open Go.RowKit Go.Proofs.YtjgfgjhaghbehaaGreatW.PrintWords

inductive Tm where
  | leaf (k a b : UInt8)
  | un (k a b : UInt8) (t : Tm)
  | bin (k a b : UInt8) (t u : Tm)

namespace Tm
def kind : Tm → UInt8 | .leaf k _ _ => k | .un k _ _ _ => k | .bin k _ _ _ _ => k
def na : Tm → UInt8 | .leaf _ a _ => a | .un _ a _ _ => a | .bin _ a _ _ _ => a
def nb : Tm → UInt8 | .leaf _ _ b => b | .un _ _ b _ => b | .bin _ _ b _ _ => b
def kids : Tm → List Tm | .leaf _ _ _ => [] | .un _ _ _ t => [t] | .bin _ _ _ t u => [t, u]
def size : Tm → Nat | .leaf _ _ _ => 1 | .un _ _ _ t => 1 + t.size | .bin _ _ _ t u => 1 + t.size + u.size
def depth : Tm → Nat | .leaf _ _ _ => 1 | .un _ _ _ t => t.depth + 1 | .bin _ _ _ t u => max t.depth u.depth + 1
theorem size_pos (t : Tm) : 1 ≤ t.size := by cases t <;> simp [size] <;> omega
end Tm

def Node (w : World) (b : Nat) (k a c : UInt8) (s : Value) : Prop := ∃ e, w.heap[b]? = some (.cells #[.int .u8 (vl k), .int .u8 (vl a), .int .u8 (vl c), s] e (0, 0))
def Kid (w : World) (r i x : Nat) : Prop := ∃ cs e, w.heap[r]? = some (.cells cs e (0, 0)) ∧ cs[i]? = some (.pointer (some ⟨x, 0, none⟩))

def Lies (w : World) (N : Nat) : Tm → Nat → Prop
  | .leaf k a c, b => N ≤ b ∧ ∃ o cap, Node w b k a c (.slice o 0 cap)
  | .un k a c t, b => N ≤ b ∧ ∃ r cap x, N ≤ r ∧ Node w b k a c (.slice (some ⟨r, 0, none⟩) 1 cap) ∧ Kid w r 0 x ∧ Lies w N t x
  | .bin k a c t u, b => N ≤ b ∧ ∃ r cap x y, N ≤ r ∧ Node w b k a c (.slice (some ⟨r, 0, none⟩) 2 cap) ∧ Kid w r 0 x ∧ Kid w r 1 y ∧ Lies w N t x ∧ Lies w N u y

theorem Node.keep {w w' : World} {b : Nat} {k a c : UInt8} {s : Value} (h : Node w b k a c s) (hk : w'.heap[b]? = w.heap[b]?) : Node w' b k a c s := by
  obtain ⟨e, h⟩ := h; exact ⟨e, hk.trans h⟩
theorem Kid.keep {w w' : World} {r i x : Nat} (h : Kid w r i x) (hk : w'.heap[r]? = w.heap[r]?) : Kid w' r i x := by
  obtain ⟨cs, e, h, h'⟩ := h; exact ⟨cs, e, hk.trans h, h'⟩
theorem Node.lt {w : World} {b : Nat} {k a c : UInt8} {s : Value} (h : Node w b k a c s) : b < w.heap.size := by obtain ⟨e, h⟩ := h; exact blk_lt h
theorem Kid.lt {w : World} {r i x : Nat} (h : Kid w r i x) : r < w.heap.size := by obtain ⟨cs, e, h, _⟩ := h; exact blk_lt h
theorem Node.cells {w : World} {b : Nat} {k a c : UInt8} {s : Value} (h : Node w b k a c s) :
    w.cell? ⟨b, 0, none⟩ = some (.int .u8 (vl k)) ∧ w.cell? ⟨b, 1, none⟩ = some (.int .u8 (vl a)) ∧ w.cell? ⟨b, 2, none⟩ = some (.int .u8 (vl c)) ∧ w.cell? ⟨b, 3, none⟩ = some s := by
  obtain ⟨e, h⟩ := h
  exact ⟨blk_cell h 0, blk_cell h 1, blk_cell h 2, blk_cell h 3⟩
theorem Kid.cell {w : World} {r i x : Nat} (h : Kid w r i x) : w.cell? ⟨r, i, none⟩ = some (.pointer (some ⟨x, 0, none⟩)) := by
  obtain ⟨cs, e, h, h'⟩ := h; rw [blk_cell h]; exact h'

theorem Lies.keep {w w' : World} {N : Nat} : ∀ {t : Tm} {b : Nat}, Lies w N t b → (∀ i, N ≤ i → i < w.heap.size → w'.heap[i]? = w.heap[i]?) → Lies w' N t b
  | .leaf _ _ _, _, ⟨h0, o, cap, h⟩, hk => ⟨h0, o, cap, h.keep (hk _ h0 h.lt)⟩
  | .un _ _ _ _, _, ⟨h0, r, cap, x, h1, h, h2, h3⟩, hk => ⟨h0, r, cap, x, h1, h.keep (hk _ h0 h.lt), h2.keep (hk _ h1 h2.lt), Lies.keep h3 hk⟩
  | .bin _ _ _ _ _, _, ⟨h0, r, cap, x, y, h1, h, h2, h2', h3, h4⟩, hk => ⟨h0, r, cap, x, y, h1, h.keep (hk _ h0 h.lt), h2.keep (hk _ h1 h2.lt), h2'.keep (hk _ h1 h2.lt), Lies.keep h3 hk, Lies.keep h4 hk⟩
theorem Lies.mono {w : World} {N N' : Nat} (hN : N' ≤ N) : ∀ {t : Tm} {b : Nat}, Lies w N t b → Lies w N' t b
  | .leaf _ _ _, _, ⟨h0, o, cap, h⟩ => ⟨by omega, o, cap, h⟩
  | .un _ _ _ _, _, ⟨h0, r, cap, x, h1, h, h2, h3⟩ => ⟨by omega, r, cap, x, by omega, h, h2, Lies.mono hN h3⟩
  | .bin _ _ _ _ _, _, ⟨h0, r, cap, x, y, h1, h, h2, h2', h3, h4⟩ => ⟨by omega, r, cap, x, y, by omega, h, h2, h2', Lies.mono hN h3, Lies.mono hN h4⟩
theorem Lies.ge {w : World} {N : Nat} {t : Tm} {b : Nat} (h : Lies w N t b) : N ≤ b := by cases t <;> exact h.1
theorem Lies.lt {w : World} {N : Nat} {t : Tm} {b : Nat} (h : Lies w N t b) : b < w.heap.size := by
  cases t with
  | leaf => obtain ⟨_, _, _, h⟩ := h; exact h.lt
  | un => obtain ⟨_, _, _, _, _, h, _⟩ := h; exact h.lt
  | bin => obtain ⟨_, _, _, _, _, _, h, _⟩ := h; exact h.lt
theorem Lies.below {w w' : World} {N : Nat} {t : Tm} {b : Nat} (h : Lies w N t b) (hb : Below w.heap.size w w') : Lies w' N t b := h.keep fun i _ hi => hb.block i hi
theorem Lies.butOne {w w' : World} {N g : Nat} {t : Tm} {b : Nat} (h : Lies w N t b) (hk : KeepBut w w' g none) (hg : g < N) : Lies w' N t b :=
  h.keep fun i h0 hi => hk.2 i hi (by omega) (by simp)

theorem Lies.drewN {w : World} {N : Nat} {t : Tm} {b : Nat} (h : Lies w N t b) (m : Nat) : Lies (w.drewN m) N t b := h.keep fun _ _ _ => rfl

theorem Lies.at {w : World} {N : Nat} {t : Tm} {b : Nat} (h : Lies w N t b) :
    ∃ o cap, w.cell? ⟨b, 0, none⟩ = some (.int .u8 (vl t.kind)) ∧ w.cell? ⟨b, 1, none⟩ = some (.int .u8 (vl t.na)) ∧ w.cell? ⟨b, 2, none⟩ = some (.int .u8 (vl t.nb)) ∧
      w.cell? ⟨b, 3, none⟩ = some (.slice o t.kids.length cap) ∧
      ∀ i, (hi : i < t.kids.length) → ∃ r x, o = some ⟨r, 0, none⟩ ∧ w.cell? ⟨r, i, none⟩ = some (.pointer (some ⟨x, 0, none⟩)) ∧ Lies w N t.kids[i] x := by
  cases t with
  | leaf =>
    obtain ⟨_, o, cap, h⟩ := h
    exact ⟨o, cap, h.cells.1, h.cells.2.1, h.cells.2.2.1, h.cells.2.2.2, fun i hi => by simp [Tm.kids] at hi⟩
  | un =>
    obtain ⟨_, r, cap, x, _, h, h2, h3⟩ := h
    refine ⟨_, cap, h.cells.1, h.cells.2.1, h.cells.2.2.1, h.cells.2.2.2, fun i hi => ?_⟩
    simp [Tm.kids] at hi; subst hi
    exact ⟨r, x, rfl, h2.cell, h3⟩
  | bin =>
    obtain ⟨_, r, cap, x, y, _, h, h2, h2', h3, h4⟩ := h
    refine ⟨_, cap, h.cells.1, h.cells.2.1, h.cells.2.2.1, h.cells.2.2.2, fun i hi => ?_⟩
    simp [Tm.kids] at hi
    rcases (by omega : i = 0 ∨ i = 1) with rfl | rfl
    · exact ⟨r, x, rfl, h2.cell, h3⟩
    · exact ⟨r, y, rfl, h2'.cell, h4⟩

end Go.Proofs.YtjgfgjhaghbehaaGreat
namespace Go.Proofs.YtjgfgjhaghbehaaGreat

abbrev St := List UInt8 × Bool
def isLet (c : UInt8) : Bool := decide (97 ≤ vl c) && decide (vl c ≤ 122)
def nx : St → UInt8 × St
  | ([], _) => (0, ([], true))
  | (c :: l, b) => (c, (l, b))
def nm (st : St) : UInt8 × St := ((nx st).1, ((nx st).2.1, (nx st).2.2 || !isLet (nx st).1))
def nd (c : UInt8) (st : St) : St := ((nx st).2.1, (nx st).2.2 || !decide ((nx st).1 = c))
def bad (b : Bool) (st : St) : St := (st.1, st.2 || b)

def pT : Nat → St → Tm × St
  | 0, st => (.leaf 48 0 0, st)
  | n + 1, st =>
    if st.2 = true then (.leaf 48 0 0, st)
    else
      let c := (nx st).1
      let st1 := (nx st).2
      if c = 48 then (.leaf 48 0 0, st1)
      else if isLet c = true then
        let k := (nx st1).1
        let st2 := bad (k != 33 && k != 63) (nx st1).2
        let b := (nm st2).1
        let st3 := nd 46 (nm st2).2
        (.un k c b (pT n st3).1, (pT n st3).2)
      else if c = 126 then (.un 126 0 0 (pT n (nd 46 st1)).1, (pT n (nd 46 st1)).2)
      else if c = 35 then
        let b := (nm st1).1
        let st3 := nd 46 (nm st1).2
        (.un 35 0 b (pT n st3).1, (pT n st3).2)
      else if c = 91 then
        let a := (nm st1).1
        let st2 := nd 61 (nm st1).2
        let b := (nm st2).1
        let st3 := nd 93 (nm st2).2
        (.un 61 a b (pT n st3).1, (pT n st3).2)
      else if c = 42 then (.un 42 0 0 (pT n st1).1, (pT n st1).2)
      else if c = 40 then
        let one := (pT n st1).1
        let st2 := (pT n st1).2
        let k := (nx st2).1
        let st3 := bad (k != 43 && k != 38) (nx st2).2
        (.bin k 0 0 one (pT n st3).1, nd 41 (pT n st3).2)
      else (.un 48 0 0 (pT n (bad true st1)).1, (pT n (bad true st1)).2)

def mu (st : St) : Nat := if st.2 = true then 0 else st.1.length + 1
theorem nx_len (st : St) : (nx st).2.1.length ≤ st.1.length := by
  obtain ⟨l, b⟩ := st; cases l <;> simp [nx]
theorem nm_len (st : St) : (nm st).2.1.length ≤ st.1.length := nx_len st
theorem nd_len (c : UInt8) (st : St) : (nd c st).1.length ≤ st.1.length := nx_len st
def Less (st : St) (k : Nat) : Prop := st.2 = true ∨ st.1.length < k
theorem nx_less {st : St} {k : Nat} (h : st.1.length ≤ k) : Less (nx st).2 k := by
  obtain ⟨l, b⟩ := st
  cases l with
  | nil => exact .inl rfl
  | cons c l => right; simp [nx] at *; omega
theorem Less.nx {st : St} {k : Nat} (h : Less st k) : Less (nx st).2 k := by
  rcases h with h | h
  · left; obtain ⟨l, b⟩ := st; cases l <;> simp_all [Go.Proofs.YtjgfgjhaghbehaaGreat.nx]
  · exact .inr (Nat.lt_of_le_of_lt (nx_len st) h)
theorem Less.bad {st : St} {k : Nat} (h : Less st k) (b : Bool) : Less (bad b st) k := by
  rcases h with h | h
  · left; simp [Go.Proofs.YtjgfgjhaghbehaaGreat.bad, h]
  · exact .inr h
theorem Less.nm {st : St} {k : Nat} (h : Less st k) : Less (nm st).2 k := h.nx.bad _
theorem Less.nd {st : St} {k : Nat} (h : Less st k) (c : UInt8) : Less (nd c st) k := h.nx.bad _
theorem Less.mu {st : St} {k n : Nat} (h : Less st k) (hk : k < n) : mu st < n := by
  unfold Go.Proofs.YtjgfgjhaghbehaaGreat.mu
  rcases h with h | h
  · rw [if_pos h]; omega
  · split <;> omega
theorem pT_len (n : Nat) : ∀ st : St, (pT n st).2.1.length ≤ st.1.length := by
  induction n with
  | zero => intro st; exact Nat.le_refl _
  | succ n ih =>
    intro st
    have h1 := nx_len st
    simp only [pT]
    split
    · exact Nat.le_refl _
    split
    · exact h1
    split
    · exact Nat.le_trans (ih _) (Nat.le_trans (nd_len _ _) (Nat.le_trans (nm_len _) (Nat.le_trans (nx_len _) h1)))
    split
    · exact Nat.le_trans (ih _) (Nat.le_trans (nd_len _ _) h1)
    split
    · exact Nat.le_trans (ih _) (Nat.le_trans (nd_len _ _) (Nat.le_trans (nm_len _) h1))
    split
    · exact Nat.le_trans (ih _) (Nat.le_trans (nd_len _ _) (Nat.le_trans (nm_len _) (Nat.le_trans (nd_len _ _) (Nat.le_trans (nm_len _) h1))))
    split
    · exact Nat.le_trans (ih _) h1
    split
    · refine Nat.le_trans (nd_len _ _) (Nat.le_trans (ih _) ?_)
      exact Nat.le_trans (nx_len _) (Nat.le_trans (ih _) h1)
    · exact Nat.le_trans (ih _) h1
theorem pT_bad (n : Nat) {st : St} (h : st.2 = true) : pT n st = (.leaf 48 0 0, st) := by
  cases n <;> simp [pT, h]
theorem Less.pT {st : St} {k : Nat} (h : Less st k) (n : Nat) : Less (pT n st).2 k := by
  rcases h with h | h
  · rw [pT_bad n h]; exact .inl h
  · exact .inr (Nat.lt_of_le_of_lt (pT_len n st) h)
theorem mu_step {st : St} {n : Nat} (hb : st.2 = false) (h : mu st < n + 1) : st.1.length < n := by
  unfold mu at h; rw [hb] at h; simp at h; omega

end Go.Proofs.YtjgfgjhaghbehaaGreat
namespace Go.Proofs.YtjgfgjhaghbehaaGreat

def Tm.text : Tm → List UInt8
  | .leaf _ _ _ => [48]
  | .un k a b t => (if k = 35 then [35, b, 46] else if k = 61 then [91, a, 61, b, 93] else if k = 42 then [42] else if k = 126 then [126, 46] else [a, k, b, 46]) ++ t.text
  | .bin k _ _ t u => 40 :: (t.text ++ k :: (u.text ++ [41]))

def Wf (P : UInt8 → Bool) : Tm → Prop
  | .leaf k a b => k = 48 ∧ a = 0 ∧ b = 0
  | .un k a b t => ((k = 33 ∨ k = 63 ∨ k = 61) ∧ P a = true ∧ P b = true ∨ k = 35 ∧ a = 0 ∧ P b = true ∨ (k = 42 ∨ k = 126) ∧ a = 0 ∧ b = 0) ∧ Wf P t
  | .bin k a b t u => (k = 43 ∨ k = 38) ∧ a = 0 ∧ b = 0 ∧ Wf P t ∧ Wf P u

theorem nx_ok {st : St} (h : (nx st).2.2 = false) : st.2 = false ∧ st.1 = (nx st).1 :: (nx st).2.1 := by
  obtain ⟨l, b⟩ := st
  cases l with
  | nil => simp [nx] at h
  | cons c l => exact ⟨h, rfl⟩
theorem nm_ok {st : St} (h : (nm st).2.2 = false) : st.2 = false ∧ isLet (nm st).1 = true ∧ st.1 = (nm st).1 :: (nm st).2.1 := by
  simp only [nm, Bool.or_eq_false_iff, Bool.not_eq_false'] at h
  obtain ⟨h1, h2⟩ := nx_ok h.1
  exact ⟨h1, h.2, h2⟩
theorem nd_ok {c : UInt8} {st : St} (h : (nd c st).2 = false) : st.2 = false ∧ st.1 = c :: (nd c st).1 := by
  simp only [nd, Bool.or_eq_false_iff, Bool.not_eq_false', decide_eq_true_eq] at h
  obtain ⟨h1, h2⟩ := nx_ok h.1
  refine ⟨h1, ?_⟩
  rw [h2, h.2]; rfl
theorem bad_ok {b : Bool} {st : St} (h : (bad b st).2 = false) : st.2 = false ∧ b = false := by
  simpa only [bad, Bool.or_eq_false_iff] using h

theorem pT_sound (n : Nat) : ∀ st : St, mu st < n → (pT n st).2.2 = false → st.2 = false ∧ st.1 = (pT n st).1.text ++ (pT n st).2.1 ∧ Wf isLet (pT n st).1 := by
  induction n with
  | zero => intro st h; omega
  | succ n ih =>
    intro st hmu hg
    by_cases hb : st.2 = true
    · rw [pT_bad _ hb] at hg; exact absurd (hg.symm.trans hb) (by decide)
    have hb' : st.2 = false := by simpa using hb
    have hL : Less (nx st).2 st.1.length := nx_less (Nat.le_refl _)
    have hk := mu_step hb' hmu
    simp only [pT, hb', Bool.false_eq_true, if_false] at hg ⊢
    split at hg
    · rename_i h1
      rw [if_pos h1]
      obtain ⟨_, h⟩ := nx_ok hg
      exact ⟨trivial, by rw [h, h1]; rfl, rfl, rfl, rfl⟩
    rename_i h1
    rw [if_neg h1]
    split at hg
    · rename_i h2
      rw [if_pos h2]
      obtain ⟨g1, g2, g3⟩ := ih _ (Less.mu (((hL.nx.bad _).nm).nd _) hk) hg
      obtain ⟨g4, g5⟩ := nd_ok g1
      obtain ⟨g6, g7, g8⟩ := nm_ok g4
      obtain ⟨g9, g10⟩ := bad_ok g6
      obtain ⟨g11, g12⟩ := nx_ok g9
      obtain ⟨_, g14⟩ := nx_ok g11
      have hk2 : (nx (nx st).2).1 = 33 ∨ (nx (nx st).2).1 = 63 := by
        by_cases a : (nx (nx st).2).1 = 33
        · exact .inl a
        · by_cases b : (nx (nx st).2).1 = 63
          · exact .inr b
          · simp [a, b] at g10
      refine ⟨trivial, ?_, ⟨.inl ⟨by rcases hk2 with h | h <;> simp [h], h2, g7⟩, g3⟩⟩
      have e1 : (bad (((nx (nx st).2).1) != 33 && ((nx (nx st).2).1) != 63) (nx (nx st).2).2).1 = (nx (nx st).2).2.1 := rfl
      rw [g14, g12, ← e1, g8, g5, g2]
      rcases hk2 with h | h <;> simp [Tm.text, h]
    rename_i h2
    rw [if_neg h2]
    split at hg
    · rename_i h3
      rw [if_pos h3]
      obtain ⟨g1, g2, g3⟩ := ih _ (Less.mu (hL.nd _) hk) hg
      obtain ⟨g4, g5⟩ := nd_ok g1
      obtain ⟨_, g14⟩ := nx_ok g4
      exact ⟨trivial, by rw [g14, g5, g2, h3]; simp [Tm.text], .inr (.inr ⟨.inr rfl, rfl, rfl⟩), g3⟩
    rename_i h3
    rw [if_neg h3]
    split at hg
    · rename_i h4
      rw [if_pos h4]
      obtain ⟨g1, g2, g3⟩ := ih _ (Less.mu (hL.nm.nd _) hk) hg
      obtain ⟨g4, g5⟩ := nd_ok g1
      obtain ⟨g6, g7, g8⟩ := nm_ok g4
      obtain ⟨_, g14⟩ := nx_ok g6
      exact ⟨trivial, by rw [g14, g8, g5, g2, h4]; simp [Tm.text], .inr (.inl ⟨rfl, rfl, g7⟩), g3⟩
    rename_i h4
    rw [if_neg h4]
    split at hg
    · rename_i h5
      rw [if_pos h5]
      obtain ⟨g1, g2, g3⟩ := ih _ (Less.mu (((hL.nm.nd _).nm).nd _) hk) hg
      obtain ⟨g4, g5⟩ := nd_ok g1
      obtain ⟨g6, g7, g8⟩ := nm_ok g4
      obtain ⟨g9, g10⟩ := nd_ok g6
      obtain ⟨g11, g12, g13⟩ := nm_ok g9
      obtain ⟨_, g14⟩ := nx_ok g11
      exact ⟨trivial, by rw [g14, g13, g10, g8, g5, g2, h5]; simp [Tm.text], .inl ⟨.inr (.inr rfl), g12, g7⟩, g3⟩
    rename_i h5
    rw [if_neg h5]
    split at hg
    · rename_i h6
      rw [if_pos h6]
      obtain ⟨g1, g2, g3⟩ := ih _ (Less.mu hL hk) hg
      obtain ⟨_, g14⟩ := nx_ok g1
      exact ⟨trivial, by rw [g14, g2, h6]; simp [Tm.text], .inr (.inr ⟨.inl rfl, rfl, rfl⟩), g3⟩
    rename_i h6
    rw [if_neg h6]
    split at hg
    · rename_i h7
      rw [if_pos h7]
      obtain ⟨g1, g2⟩ := nd_ok hg
      obtain ⟨g3, g4, g5⟩ := ih _ (Less.mu ((((hL.pT n).nx).bad _)) hk) g1
      obtain ⟨g6, g7⟩ := bad_ok g3
      obtain ⟨g8, g9⟩ := nx_ok g6
      obtain ⟨g10, g11, g12⟩ := ih _ (Less.mu hL hk) g8
      obtain ⟨_, g14⟩ := nx_ok g10
      have hk2 : (nx (pT n (nx st).2).2).1 = 43 ∨ (nx (pT n (nx st).2).2).1 = 38 := by
        by_cases a : (nx (pT n (nx st).2).2).1 = 43
        · exact .inl a
        · by_cases b : (nx (pT n (nx st).2).2).1 = 38
          · exact .inr b
          · simp [a, b] at g7
      refine ⟨trivial, ?_, hk2, rfl, rfl, g12, g5⟩
      have e1 : (bad ((nx (pT n (nx st).2).2).1 != 43 && (nx (pT n (nx st).2).2).1 != 38) (nx (pT n (nx st).2).2).2).1 = (nx (pT n (nx st).2).2).2.1 := rfl
      rw [g14, g11, g9, ← e1, g4, h7]
      simp only [Tm.text]
      rw [g2]
      simp
    rename_i h7
    rw [if_neg h7]
    have := (ih _ (Less.mu (hL.bad true) hk) hg).1
    simp [bad] at this

theorem size_le_text (t : Tm) : t.size ≤ t.text.length := by
  induction t with
  | leaf => simp [Tm.size, Tm.text]
  | un k a b t ih => simp only [Tm.size, Tm.text, List.length_append]; repeat' split
                     all_goals simp; omega
  | bin k a b t u ih1 ih2 => simp [Tm.size, Tm.text]; omega

theorem let_ne {c : UInt8} (h : isLet c = true) : c ≠ 48 ∧ c ≠ 126 ∧ c ≠ 35 ∧ c ≠ 91 ∧ c ≠ 42 ∧ c ≠ 40 := by
  refine ⟨?_, ?_, ?_, ?_, ?_, ?_⟩ <;> (rintro rfl; exact absurd h (by decide))

theorem pT_complete (t : Tm) : ∀ (n : Nat) (rest : List UInt8), Wf isLet t → t.text.length < n → pT n (t.text ++ rest, false) = (t, (rest, false)) := by
  induction t with
  | leaf k a b =>
    intro n rest ⟨h1, h2, h3⟩ hn
    obtain ⟨n, rfl⟩ : ∃ m, n = m + 1 := ⟨n - 1, by omega⟩
    subst h1 h2 h3
    simp [pT, Tm.text, nx]
  | un k a b t ih =>
    intro n rest ⟨h, hw⟩ hn
    obtain ⟨n, rfl⟩ : ∃ m, n = m + 1 := ⟨n - 1, by omega⟩
    have hlt : t.text.length < n := by
      simp only [Tm.text, List.length_append] at hn
      revert hn; repeat' split
      all_goals simp; omega
    have ih := ih n rest hw hlt
    rcases h with ⟨hk, ha, hb⟩ | ⟨rfl, rfl, hb⟩ | ⟨hk, rfl, rfl⟩
    · obtain ⟨n1, n2, n3, n4, n5, n6⟩ := let_ne ha
      rcases hk with rfl | rfl | rfl
      · simp [pT, Tm.text, nx, n1, ha, nm, nd, hb, bad, ih]
      · simp [pT, Tm.text, nx, n1, ha, nm, nd, hb, bad, ih]
      · simp [pT, Tm.text, nx, nm, nd, hb, ha, ih, show isLet 91 = false from by decide]
    · simp [pT, Tm.text, nx, nm, nd, hb, ih, show isLet 35 = false from by decide]
    · rcases hk with rfl | rfl
      · simp [pT, Tm.text, nx, ih, show isLet 42 = false from by decide]
      · simp [pT, Tm.text, nx, nd, ih, show isLet 126 = false from by decide]
  | bin k a b t u ih1 ih2 =>
    intro n rest h hn
    obtain ⟨hk, rfl, rfl, hw1, hw2⟩ := h
    obtain ⟨n, rfl⟩ : ∃ m, n = m + 1 := ⟨n - 1, by omega⟩
    simp [Tm.text] at hn
    have e1 := ih1 n (k :: (u.text ++ 41 :: rest)) hw1 (by omega)
    have e2 := ih2 n (41 :: rest) hw2 (by omega)
    rcases hk with rfl | rfl <;> simp [pT, Tm.text, nx, nd, bad, e1, e2, show isLet 40 = false from by decide]

def parsed (l : List UInt8) : Tm × St := pT (l.length + 2) (l, false)
def parseOk (l : List UInt8) : Bool := !(parsed l).2.2 && decide ((parsed l).2.1 = [])

def readOk (l : List UInt8) : Bool := decide (l.length ≤ 300) && (parseOk l && decide ((parsed l).1.size ≤ 60))
theorem parse_good {l : List UInt8} (h : parseOk l = true) : l = (parsed l).1.text ∧ Wf isLet (parsed l).1 := by
  simp only [parseOk, Bool.and_eq_true, Bool.not_eq_true', decide_eq_true_eq] at h
  obtain ⟨_, h1, h2⟩ := pT_sound (l.length + 2) (l, false) (by simp [mu]) h.1
  refine ⟨?_, h2⟩
  have h3 : (pT (l.length + 2) (l, false)).2.1 = [] := h.2
  rw [h3, List.append_nil] at h1
  exact h1
theorem parse_text {t : Tm} (h : Wf isLet t) : parsed t.text = (t, ([], false)) ∧ parseOk t.text = true := by
  have e : parsed t.text = (t, ([], false)) := by
    have := pT_complete t (t.text.length + 2) [] h (by omega)
    rw [List.append_nil] at this
    exact this
  exact ⟨e, by simp [parseOk, e]⟩

theorem read_good {l : List UInt8} (h : readOk l = true) : l.length ≤ 300 ∧ l = (parsed l).1.text ∧ Wf isLet (parsed l).1 ∧ (parsed l).1.size ≤ 60 := by
  simp only [readOk, Bool.and_eq_true, decide_eq_true_eq] at h
  exact ⟨h.1, (parse_good h.2.1).1, (parse_good h.2.1).2, h.2.2⟩
theorem read_text {t : Tm} (h : Wf isLet t) : readOk t.text = (decide (t.text.length ≤ 300) && decide (t.size ≤ 60)) := by
  simp [readOk, parse_text h]

theorem enc_small {c : UInt8} (h : vl c < 128) : Utf8.encode (vl c) = B [c] := by
  have hv : Utf8.valid (vl c) = true := by
    have := vl_range c
    simp [Utf8.valid]; omega
  have hn : (vl c).toNat = c.toNat := by simp [vl]
  have hlt : c.toNat < 128 := by unfold vl at h; omega
  unfold Utf8.encode
  simp only [hv, if_true, hn]
  rw [if_pos (by omega)]
  simp [B]
theorem kind_small {t : Tm} {P : UInt8 → Bool} (h : Wf P t) : vl t.kind < 128 := by
  cases t with
  | leaf => obtain ⟨rfl, _⟩ := h; simp only [Tm.kind]; decide
  | un =>
    rcases h.1 with ⟨h, _⟩ | ⟨h, _⟩ | ⟨h, _⟩
    · rcases h with rfl | rfl | rfl <;> simp only [Tm.kind] <;> decide
    · subst h; simp only [Tm.kind]; decide
    · rcases h with rfl | rfl <;> simp only [Tm.kind] <;> decide
  | bin => rcases h.1 with rfl | rfl <;> simp only [Tm.kind] <;> decide
theorem let_lt {c : UInt8} (h : isLet c = true) : vl c < 128 := by simp [isLet] at h; omega

end Go.Proofs.YtjgfgjhaghbehaaGreat
namespace Go.Proofs.YtjgfgjhaghbehaaGreat
open Go.RowKit Go.Proofs.YtjgfgjhaghbehaaGreatW.PrintWords

def At (s : List UInt8) (i : Nat) (l : List UInt8) : Prop := ∃ pre, s = pre ++ l ∧ pre.length = i
theorem At.step {s : List UInt8} {i : Nat} {c : UInt8} {l : List UInt8} (h : At s i (c :: l)) : At s (i + 1) l := by
  obtain ⟨pre, rfl, rfl⟩ := h; exact ⟨pre ++ [c], by simp, by simp⟩
theorem At.skip {s : List UInt8} {i : Nat} {a l : List UInt8} (h : At s i (a ++ l)) : At s (i + a.length) l := by
  obtain ⟨pre, rfl, rfl⟩ := h; exact ⟨pre ++ a, by simp, by simp⟩
theorem At.start (l : List UInt8) : At l 0 l := ⟨[], rfl, rfl⟩
theorem At.len {s : List UInt8} {i : Nat} {l : List UInt8} (h : At s i l) : s.length = i + l.length := by
  obtain ⟨pre, rfl, rfl⟩ := h; simp
theorem At.bt {s : List UInt8} {i : Nat} {l : List UInt8} (h : At s i l) (x : Int) (j : Nat) (hx : x = i + j) : bt (B s) x = at_ l j := by
  obtain ⟨pre, rfl, rfl⟩ := h
  rw [bt_B, hx, show ((pre.length : Int) + j).toNat = pre.length + j from by omega, at_append]
theorem At.size {s : List UInt8} {i : Nat} {l : List UInt8} (h : At s i l) : ((B s).size : Int) = i + l.length := by rw [B_size, h.len]; omega


end Go.Proofs.YtjgfgjhaghbehaaGreat
namespace Go.Proofs.YtjgfgjhaghbehaaGreat
theorem byte_of (l : List UInt8) (i : Nat) (_h : i < l.length) : ∀ hh : i < (B l).size, (((B l)[i]'hh).toNat : Int) = vl (l[i]'_h) := by
  intro hh; rfl
end Go.Proofs.YtjgfgjhaghbehaaGreat
namespace Go.Proofs.YtjgfgjhaghbehaaGreat

def pre : Tm → List Tm
  | .leaf k a b => [.leaf k a b]
  | .un k a b t => .un k a b t :: pre t
  | .bin k a b t u => .bin k a b t u :: (pre t ++ pre u)
theorem pre_kids (t : Tm) : pre t = t :: (t.kids.map pre).flatten := by cases t <;> simp [pre, Tm.kids]
def pres (l : List Tm) : List Tm := (l.map pre).flatten
theorem pres_take_succ (l : List Tm) (i : Nat) (h : i < l.length) : pres (l.take (i + 1)) = pres (l.take i) ++ pre l[i] := by
  unfold pres; rw [List.take_succ_eq_append_getElem h, List.map_append, List.flatten_append]; simp

def cnt (c : UInt8) : Tm → Nat
  | .leaf k _ _ => if k = c then 1 else 0
  | .un k _ _ t => (if k = c then 1 else 0) + cnt c t
  | .bin k _ _ t u => (if k = c then 1 else 0) + cnt c t + cnt c u
theorem cnt_pre (c : UInt8) (t : Tm) : cnt c t = (pre t).countP fun u => u.kind == c := by
  induction t with
  | leaf => simp [cnt, pre, Tm.kind]
  | un k a b t ih => simp only [cnt, pre, Tm.kind, List.countP_cons, ih, beq_iff_eq]; omega
  | bin k a b t u ih1 ih2 => simp only [cnt, pre, Tm.kind, List.countP_cons, List.countP_append, ih1, ih2, beq_iff_eq]; omega
theorem wf_pre {P : UInt8 → Bool} {t : Tm} (h : Wf P t) : ∀ u, u ∈ pre t → Wf P u := by
  induction t with
  | leaf => intro u hu; simp only [pre, List.mem_singleton] at hu; subst hu; exact h
  | un k a b t ih =>
    intro u hu; simp only [pre, List.mem_cons] at hu
    rcases hu with rfl | hu
    · exact h
    · exact ih h.2 u hu
  | bin k a b t u ih1 ih2 =>
    intro v hv; simp only [pre, List.mem_cons, List.mem_append] at hv
    rcases hv with rfl | hv | hv
    · exact h
    · exact ih1 h.2.2.2.1 v hv
    · exact ih2 h.2.2.2.2 v hv

end Go.Proofs.YtjgfgjhaghbehaaGreat
namespace Go.Proofs.YtjgfgjhaghbehaaGreat
open Go.RowKit Go.Proofs.YtjgfgjhaghbehaaGreatW.PrintWords

theorem indexByte_has (l : List UInt8) (c : UInt8) : decide (0 ≤ Lib.indexByte l c) = l.contains c := by
  induction l with
  | nil => rfl
  | cons d l ih =>
    unfold Lib.indexByte
    by_cases h : d = c
    · subst h; simp
    · have h1 : (d == c) = false := by simpa using h
      have h2 : (c == d) = false := by simpa using fun e : c = d => h e.symm
      have := Lib.indexByte_ge l c
      rw [List.contains_cons, h2, Bool.false_or, ← ih, h1]
      simp only [Bool.false_eq_true, if_false, beq_iff_eq]
      split
      · rename_i h3; rw [h3]
      · rw [decide_eq_decide]; omega
def inG (c : UInt8) : Bool := [33, 63, 126, 43, 48].contains c
def guaP : Tm → Bool
  | .bin k _ _ t u => vl k != 43 || (inG t.kind && inG u.kind)
  | _ => true
def simP : Tm → Bool
  | .un k _ _ t => vl k != 42 || vl t.kind == 63
  | _ => true
def senP : Tm → Bool
  | .leaf _ _ _ => true
  | .un k _ _ t => vl k != 33 || vl t.kind == 48
  | .bin k _ _ t u => vl k != 43 || (vl t.kind != 33 && vl u.kind != 33)

theorem kind_leaf {P : UInt8 → Bool} {k a b : UInt8} (h : Wf P (.leaf k a b)) : k = 48 := h.1
theorem kind_un {P : UInt8 → Bool} {k a b : UInt8} {t : Tm} (h : Wf P (.un k a b t)) : k ≠ 48 ∧ k ≠ 43 ∧ k ≠ 38 := by
  rcases h.1 with ⟨h, _⟩ | ⟨h, _⟩ | ⟨h, _⟩
  · rcases h with rfl | rfl | rfl <;> decide
  · subst h; decide
  · rcases h with rfl | rfl <;> decide
theorem kind_bin {P : UInt8 → Bool} {k a b : UInt8} {t u : Tm} (h : Wf P (.bin k a b t u)) : k = 43 ∨ k = 38 := h.1
theorem vl_bne (c d : UInt8) : (vl c != vl d) = (c != d) := by
  rw [Bool.eq_iff_iff]; simp [vl_inj]
theorem vl_beq (c d : UInt8) : (vl c == vl d) = (c == d) := by
  rw [Bool.eq_iff_iff]; simp [vl_inj]

end Go.Proofs.YtjgfgjhaghbehaaGreat
