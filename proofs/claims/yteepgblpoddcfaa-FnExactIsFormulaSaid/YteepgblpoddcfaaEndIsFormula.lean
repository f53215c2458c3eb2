/- The law FnExactIsFormula, walked: the program's answer is the reference's. -/
import Derived.Test.YteepgblpoddcfaaFormD
import Derived.Test.YteepgblpoddcfaaFormW
namespace Go.Proofs.Yteepgblpoddcfaa.PFnExactIsFormula
open Go.RowKit Go.Proofs.YteepgblpoddcfaaW.PrintWords Go.Proofs.YteepgblpoddcfaaW.PrintLast Go.Proofs.YteepgblpoddcfaaW.PrintMore Go.Proofs.Yteepgblpoddcfaa.PDepthOfFormula
set_option linter.unusedVariables false
set_option linter.unusedSimpArgs false

set_option maxHeartbeats 1000000 in
theorem IsFormula_calls (l : List UInt8) (w : World) (hl : l.length ≤ 140737488351232) :
    Calls Try.prog 26 #[.string (B l)] w fun e w' => e = .returned (.bool (fmOf l).isSome) ∧ Below w.heap.size w w' := by
  go_enter Try.func26, Try.ntmps26
  go_wp2_with fail
  refine (formulaOf_calls l w hl).mono ?_
  rintro e w1 ⟨hb, q, rfl, hp⟩
  clear hp
  go_wp2_with fail
  go_ret
  exact ⟨rfl, hb⟩
theorem spec_calls (l : List UInt8) (w : World) :
    Calls Try.prog 25 #[.string (B l)] w fun e w' => e = .returned (.bool (fmOf l).isSome) ∧ ∃ n, w' = w.drewN n := by
  have HF := Lib.hid (is_f l 6000 (Nat.le_refl _))
  go_enter Try.func25, Try.ntmps25
  go_wp2_with fail
  refine ((spec_biIs.calls 6000 (B l) _ _ HF.out).mono fun e w' ⟨h, k⟩ => (⟨h, k.out⟩ : _ ∧ ∃ n, w' = w.drewN n)).mono ?_
  rintro e w1 ⟨rfl, n, rfl⟩
  go_wp2_with fail
  go_ret
  exact ⟨rfl, n, rfl⟩

set_option maxHeartbeats 1000000 in
theorem law_walk (s : ByteArray) (w : World) (hs : s.size ≤ 140737488351232) :
    Calls Try.prog 9 #[.string s] w fun e w' => e = .returned (.bool true) ∧ Below w.heap.size w w' := by
  obtain ⟨l, rfl⟩ := B_of s
  have hz : (B l).size = l.length := B_size l
  rw [hz] at hs
  by_cases hbig : l.length > 1048576
  · go_enter Try.func9, Try.ntmps9
    go_wp2_with fail
    go_ret
    exact ⟨rfl, Below.refl _ _⟩
  · go_enter Try.func9, Try.ntmps9
    go_wp2_with fail
    refine (spec_calls l w).mono ?_
    rintro e w1 ⟨rfl, n, rfl⟩
    have hb1 : Below w.heap.size w (w.drewN n) := pw_below_drewN (Below.refl _ _) n
    go_wp2_with fail
    refine (IsFormula_calls l _ hs).mono ?_
    rintro e w2 ⟨rfl, hb⟩
    replace hb := below_then hb1 hb1.size hb
    clear hb1
    go_wp2_with fail
    go_ret
    exact ⟨rfl, hb⟩

end Go.Proofs.Yteepgblpoddcfaa.PFnExactIsFormula
