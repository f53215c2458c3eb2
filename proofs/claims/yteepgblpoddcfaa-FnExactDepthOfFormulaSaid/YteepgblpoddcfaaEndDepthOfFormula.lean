/- The law FnExactDepthOfFormula, walked: the program's answer is the reference's. -/
import Derived.Test.YteepgblpoddcfaaFormD
import Derived.Test.YteepgblpoddcfaaFormV
namespace Go.Proofs.Yteepgblpoddcfaa.PFnExactDepthOfFormula
open Go.RowKit Go.Proofs.YteepgblpoddcfaaW.PrintWords Go.Proofs.YteepgblpoddcfaaW.PrintLast Go.Proofs.YteepgblpoddcfaaW.PrintMore Go.Proofs.Yteepgblpoddcfaa.PDepthOfFormula
set_option linter.unusedVariables false
set_option linter.unusedSimpArgs false

theorem fsize_text (t : Fm) : t.size ≤ t.text.length := by
  induction t <;> simp [Fm.size, Fm.text] <;> omega
set_option maxHeartbeats 1000000 in
theorem DepthOfFormula_calls (l : List UInt8) (w : World) (hl : l.length ≤ 140737488351232) :
    Calls Try.prog 28 #[.string (B l)] w fun e w' => e = .returned (.tuple #[.int .i64 (fval l), .bool (fmOf l).isSome]) ∧ Below w.heap.size w w' := by
  go_enter Try.func28, Try.ntmps28
  go_wp2_with fail
  refine (formulaOf_calls l w hl).mono ?_
  rintro e w1 ⟨hb, q, rfl, hp⟩
  rcases hok : fmOf l with _ | f
  · have hv : Hid (fval l = 0 ∧ (fmOf l).isSome = false) := by simp [Hid, fval, hok]
    have hs : (none : Option Fm).isSome = false := rfl
    clear hok hp
    go_wp2_with fail
    go_ret2
    exact ⟨by rw [hv.out.1, hv.out.2]; rfl, hb⟩
  · have hv : Hid (fval l = f.depth ∧ (fmOf l).isSome = true) := by simp [Hid, fval, hok]
    have hs : (some f : Option Fm).isSome = true := rfl
    obtain ⟨b, rfl, hli⟩ := hp f hok
    obtain ⟨g1, g2, g3⟩ := fmOf_good hok
    have hsz := fsize_text f
    rw [g1] at g3
    clear hok hp
    go_wp2_with fail
    refine (fdepth_any 400 _ _ _ _ (by omega) (by omega) hli).mono ?_
    rintro e w' ⟨rfl, rfl⟩
    clear hli
    go_wp2_with fail
    go_ret2
    exact ⟨by rw [hv.out.1, hv.out.2]; rfl, hb⟩

set_option maxHeartbeats 1000000 in
theorem law_walk (s : ByteArray) (w : World) (hs : s.size ≤ 140737488351232) :
    Calls Try.prog 10 #[.string s] w fun e w' => e = .returned (.bool true) ∧ Below w.heap.size w w' := by
  obtain ⟨l, rfl⟩ := B_of s
  have hz : (B l).size = l.length := B_size l
  rw [hz] at hs
  by_cases hbig : l.length > 1048576
  · go_enter Try.func10, Try.ntmps10
    go_wp2_with fail
    go_ret
    exact ⟨rfl, Below.refl _ _⟩
  · have HF := Lib.hid (spec_val l)
    go_enter Try.func10, Try.ntmps10
    go_wp2_with fail
    refine (spec_DepthOfFormula.calls 6000 (B l) _ _ _ HF.out).mono ?_
    rintro e w1 ⟨rfl, hb1⟩
    go_wp2_with fail
    refine (DepthOfFormula_calls l _ hs).mono ?_
    rintro e w2 ⟨rfl, hb⟩
    replace hb := below_then hb1 hb1.size hb
    clear hb1
    go_wp2_with fail
    go_ret
    exact ⟨rfl, hb⟩

end Go.Proofs.Yteepgblpoddcfaa.PFnExactDepthOfFormula
