/- The terms of the program as a Lean type, and what it means that a term lies in memory. No program in sight. -/
import Derived.Test.YtjinjanjjecmiaaBytes
import Derived.Deep.Draws
namespace Go.Proofs.Ytjinjanjjecmiaa
open Go.RowKit Go.Proofs.YtjinjanjjecmiaaW.PrintWords

/-- A term: a sign with its two names, and no, one or two parts. -/
inductive Tm where
  | leaf (k a b : UInt8)
  | un (k a b : UInt8) (t : Tm)
  | bin (k a b : UInt8) (t u : Tm)

namespace Tm
def kind : Tm → UInt8 | .leaf k _ _ => k | .un k _ _ _ => k | .bin k _ _ _ _ => k
def na : Tm → UInt8 | .leaf _ a _ => a | .un _ a _ _ => a | .bin _ a _ _ _ => a
def nb : Tm → UInt8 | .leaf _ _ b => b | .un _ _ b _ => b | .bin _ _ b _ _ => b
def kids : Tm → List Tm | .leaf _ _ _ => [] | .un _ _ _ t => [t] | .bin _ _ _ t u => [t, u]
def size : Tm → Nat | .leaf _ _ _ => 1 | .un _ _ _ t => 1 + t.size | .bin _ _ _ t u => 1 + t.size + u.size
def depth : Tm → Nat | .leaf _ _ _ => 1 | .un _ _ _ t => t.depth + 1 | .bin _ _ _ t u => max t.depth u.depth + 1
theorem size_pos (t : Tm) : 1 ≤ t.size := by cases t <;> simp [size] <;> omega
end Tm

/-- A node at block b: its three bytes and its slice of parts. -/
def Node (w : World) (b : Nat) (k a c : UInt8) (s : Value) : Prop := ∃ e, w.heap[b]? = some (.cells #[.int .u8 (vl k), .int .u8 (vl a), .int .u8 (vl c), s] e (0, 0))
/-- Cell i of the row at block r leads to block x. -/
def Kid (w : World) (r i x : Nat) : Prop := ∃ cs e, w.heap[r]? = some (.cells cs e (0, 0)) ∧ cs[i]? = some (.pointer (some ⟨x, 0, none⟩))

/-- The term lies at block b, all its blocks are from N on. -/
def Lies (w : World) (N : Nat) : Tm → Nat → Prop
  | .leaf k a c, b => N ≤ b ∧ ∃ o cap, Node w b k a c (.slice o 0 cap)
  | .un k a c t, b => N ≤ b ∧ ∃ r cap x, N ≤ r ∧ Node w b k a c (.slice (some ⟨r, 0, none⟩) 1 cap) ∧ Kid w r 0 x ∧ Lies w N t x
  | .bin k a c t u, b => N ≤ b ∧ ∃ r cap x y, N ≤ r ∧ Node w b k a c (.slice (some ⟨r, 0, none⟩) 2 cap) ∧ Kid w r 0 x ∧ Kid w r 1 y ∧ Lies w N t x ∧ Lies w N u y

theorem Node.keep {w w' : World} {b : Nat} {k a c : UInt8} {s : Value} (h : Node w b k a c s) (hk : w'.heap[b]? = w.heap[b]?) : Node w' b k a c s := by
  obtain ⟨e, h⟩ := h; exact ⟨e, hk.trans h⟩
theorem Kid.keep {w w' : World} {r i x : Nat} (h : Kid w r i x) (hk : w'.heap[r]? = w.heap[r]?) : Kid w' r i x := by
  obtain ⟨cs, e, h, h'⟩ := h; exact ⟨cs, e, hk.trans h, h'⟩
theorem Node.lt {w : World} {b : Nat} {k a c : UInt8} {s : Value} (h : Node w b k a c s) : b < w.heap.size := by obtain ⟨e, h⟩ := h; exact blk_lt h
theorem Kid.lt {w : World} {r i x : Nat} (h : Kid w r i x) : r < w.heap.size := by obtain ⟨cs, e, h, _⟩ := h; exact blk_lt h
theorem Node.cells {w : World} {b : Nat} {k a c : UInt8} {s : Value} (h : Node w b k a c s) :
    w.cell? ⟨b, 0, none⟩ = some (.int .u8 (vl k)) ∧ w.cell? ⟨b, 1, none⟩ = some (.int .u8 (vl a)) ∧ w.cell? ⟨b, 2, none⟩ = some (.int .u8 (vl c)) ∧ w.cell? ⟨b, 3, none⟩ = some s := by
  obtain ⟨e, h⟩ := h
  exact ⟨blk_cell h 0, blk_cell h 1, blk_cell h 2, blk_cell h 3⟩
theorem Kid.cell {w : World} {r i x : Nat} (h : Kid w r i x) : w.cell? ⟨r, i, none⟩ = some (.pointer (some ⟨x, 0, none⟩)) := by
  obtain ⟨cs, e, h, h'⟩ := h; rw [blk_cell h]; exact h'

/-- A term lies on where none of its blocks turns. -/
theorem Lies.keep {w w' : World} {N : Nat} : ∀ {t : Tm} {b : Nat}, Lies w N t b → (∀ i, N ≤ i → i < w.heap.size → w'.heap[i]? = w.heap[i]?) → Lies w' N t b
  | .leaf _ _ _, _, ⟨h0, o, cap, h⟩, hk => ⟨h0, o, cap, h.keep (hk _ h0 h.lt)⟩
  | .un _ _ _ _, _, ⟨h0, r, cap, x, h1, h, h2, h3⟩, hk => ⟨h0, r, cap, x, h1, h.keep (hk _ h0 h.lt), h2.keep (hk _ h1 h2.lt), Lies.keep h3 hk⟩
  | .bin _ _ _ _ _, _, ⟨h0, r, cap, x, y, h1, h, h2, h2', h3, h4⟩, hk => ⟨h0, r, cap, x, y, h1, h.keep (hk _ h0 h.lt), h2.keep (hk _ h1 h2.lt), h2'.keep (hk _ h1 h2.lt), Lies.keep h3 hk, Lies.keep h4 hk⟩
theorem Lies.mono {w : World} {N N' : Nat} (hN : N' ≤ N) : ∀ {t : Tm} {b : Nat}, Lies w N t b → Lies w N' t b
  | .leaf _ _ _, _, ⟨h0, o, cap, h⟩ => ⟨by omega, o, cap, h⟩
  | .un _ _ _ _, _, ⟨h0, r, cap, x, h1, h, h2, h3⟩ => ⟨by omega, r, cap, x, by omega, h, h2, Lies.mono hN h3⟩
  | .bin _ _ _ _ _, _, ⟨h0, r, cap, x, y, h1, h, h2, h2', h3, h4⟩ => ⟨by omega, r, cap, x, y, by omega, h, h2, h2', Lies.mono hN h3, Lies.mono hN h4⟩
theorem Lies.ge {w : World} {N : Nat} {t : Tm} {b : Nat} (h : Lies w N t b) : N ≤ b := by cases t <;> exact h.1
theorem Lies.lt {w : World} {N : Nat} {t : Tm} {b : Nat} (h : Lies w N t b) : b < w.heap.size := by
  cases t with
  | leaf => obtain ⟨_, _, _, h⟩ := h; exact h.lt
  | un => obtain ⟨_, _, _, _, _, h, _⟩ := h; exact h.lt
  | bin => obtain ⟨_, _, _, _, _, _, h, _⟩ := h; exact h.lt
theorem Lies.below {w w' : World} {N : Nat} {t : Tm} {b : Nat} (h : Lies w N t b) (hb : Below w.heap.size w w') : Lies w' N t b := h.keep fun i _ hi => hb.block i hi
theorem Lies.butOne {w w' : World} {N g : Nat} {t : Tm} {b : Nat} (h : Lies w N t b) (hk : KeepBut w w' g none) (hg : g < N) : Lies w' N t b :=
  h.keep fun i h0 hi => hk.2 i hi (by omega) (by simp)

theorem Lies.drewN {w : World} {N : Nat} {t : Tm} {b : Nat} (h : Lies w N t b) (m : Nat) : Lies (w.drewN m) N t b := h.keep fun _ _ _ => rfl

/-- What a walk wants of a node: its cells, and its parts by their index. -/
theorem Lies.at {w : World} {N : Nat} {t : Tm} {b : Nat} (h : Lies w N t b) :
    ∃ o cap, w.cell? ⟨b, 0, none⟩ = some (.int .u8 (vl t.kind)) ∧ w.cell? ⟨b, 1, none⟩ = some (.int .u8 (vl t.na)) ∧ w.cell? ⟨b, 2, none⟩ = some (.int .u8 (vl t.nb)) ∧
      w.cell? ⟨b, 3, none⟩ = some (.slice o t.kids.length cap) ∧
      ∀ i, (hi : i < t.kids.length) → ∃ r x, o = some ⟨r, 0, none⟩ ∧ w.cell? ⟨r, i, none⟩ = some (.pointer (some ⟨x, 0, none⟩)) ∧ Lies w N t.kids[i] x := by
  cases t with
  | leaf =>
    obtain ⟨_, o, cap, h⟩ := h
    exact ⟨o, cap, h.cells.1, h.cells.2.1, h.cells.2.2.1, h.cells.2.2.2, fun i hi => by simp [Tm.kids] at hi⟩
  | un =>
    obtain ⟨_, r, cap, x, _, h, h2, h3⟩ := h
    refine ⟨_, cap, h.cells.1, h.cells.2.1, h.cells.2.2.1, h.cells.2.2.2, fun i hi => ?_⟩
    simp [Tm.kids] at hi; subst hi
    exact ⟨r, x, rfl, h2.cell, h3⟩
  | bin =>
    obtain ⟨_, r, cap, x, y, _, h, h2, h2', h3, h4⟩ := h
    refine ⟨_, cap, h.cells.1, h.cells.2.1, h.cells.2.2.1, h.cells.2.2.2, fun i hi => ?_⟩
    simp [Tm.kids] at hi
    rcases (by omega : i = 0 ∨ i = 1) with rfl | rfl
    · exact ⟨r, x, rfl, h2.cell, h3⟩
    · exact ⟨r, y, rfl, h2'.cell, h4⟩

end Go.Proofs.Ytjinjanjjecmiaa
