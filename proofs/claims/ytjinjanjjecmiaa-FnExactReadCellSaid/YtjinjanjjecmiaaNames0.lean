/- A byte of a string as its number. No program in sight. -/
import Derived.Test.YtjinjanjjecmiaaBytes
namespace Go.Proofs.Ytjinjanjjecmiaa
theorem byte_of (l : List UInt8) (i : Nat) (_h : i < l.length) : ∀ hh : i < (B l).size, (((B l)[i]'hh).toNat : Int) = vl (l[i]'_h) := by
  intro hh; rfl
end Go.Proofs.Ytjinjanjjecmiaa
