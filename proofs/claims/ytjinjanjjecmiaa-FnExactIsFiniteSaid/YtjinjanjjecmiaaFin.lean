/- The walk of finite. -/
import Derived.Test.YtjinjanjjecmiaaAllfinite
namespace Go.Proofs.Ytjinjanjjecmiaa
open Go.RowKit Go.Proofs.YtjinjanjjecmiaaW.PrintWords
set_option linter.unusedVariables false
set_option linter.unusedSimpArgs false

def finP (u : Tm) : Bool := vl u.kind != 42
theorem finite_test : Afinite.TestSays finP (fun _ => True) := by
  intro u w N x _ hl
  obtain ⟨o, cap, c0, _, _, _, _⟩ := hl.at
  clear hl
  go_enter Try.func81, Try.ntmps81
  go_wp2_with fail
  go_ret
  exact ⟨rfl, rfl⟩
theorem finite_calls (t : Tm) (w : World) (N x : Nat) (hs : t.size ≤ 1000000) (hl : Lies w N t x) :
    Calls Try.prog 50 #[.pointer (some ⟨x, 0, none⟩)] w fun e w' => e = .returned (.bool ((pre t).all finP)) ∧ Below w.heap.size w w' := by
  have hc := Afinite.all_calls finite_test t w N x hs (fun _ _ => trivial) hl
  clear hl
  go_enter Try.func50, Try.ntmps50
  go_wp2_with fail
  refine hc.mono ?_
  rintro e w1 ⟨rfl, hb⟩
  clear hc
  go_wp2_with fail
  go_ret
  exact ⟨rfl, hb⟩

end Go.Proofs.Ytjinjanjjecmiaa
