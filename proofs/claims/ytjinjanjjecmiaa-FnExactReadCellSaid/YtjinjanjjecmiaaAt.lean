/- What stands at a place of a text. No program in sight. -/
import Derived.Test.YtjinjanjjecmiaaText
namespace Go.Proofs.Ytjinjanjjecmiaa
open Go.RowKit Go.Proofs.YtjinjanjjecmiaaW.PrintWords

/-- At place i of s stands l. -/
def At (s : List UInt8) (i : Nat) (l : List UInt8) : Prop := ∃ pre, s = pre ++ l ∧ pre.length = i
theorem At.step {s : List UInt8} {i : Nat} {c : UInt8} {l : List UInt8} (h : At s i (c :: l)) : At s (i + 1) l := by
  obtain ⟨pre, rfl, rfl⟩ := h; exact ⟨pre ++ [c], by simp, by simp⟩
theorem At.skip {s : List UInt8} {i : Nat} {a l : List UInt8} (h : At s i (a ++ l)) : At s (i + a.length) l := by
  obtain ⟨pre, rfl, rfl⟩ := h; exact ⟨pre ++ a, by simp, by simp⟩
theorem At.start (l : List UInt8) : At l 0 l := ⟨[], rfl, rfl⟩
theorem At.len {s : List UInt8} {i : Nat} {l : List UInt8} (h : At s i l) : s.length = i + l.length := by
  obtain ⟨pre, rfl, rfl⟩ := h; simp
theorem At.bt {s : List UInt8} {i : Nat} {l : List UInt8} (h : At s i l) (x : Int) (j : Nat) (hx : x = i + j) : bt (B s) x = at_ l j := by
  obtain ⟨pre, rfl, rfl⟩ := h
  rw [bt_B, hx, show ((pre.length : Int) + j).toNat = pre.length + j from by omega, at_append]
theorem At.size {s : List UInt8} {i : Nat} {l : List UInt8} (h : At s i l) : ((B s).size : Int) = i + l.length := by rw [B_size, h.len]; omega


end Go.Proofs.Ytjinjanjjecmiaa
