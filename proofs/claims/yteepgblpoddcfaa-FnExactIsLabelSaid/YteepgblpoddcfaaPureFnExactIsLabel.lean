/- The program's IsLabel answers as the reference's, at every text of at most 2^20 bytes. -/
import Derived.Test.YteepgblpoddcfaaLabelIsLabel
namespace Go.Proofs.Yteepgblpoddcfaa.Pure
open Go.RowKit Go.Proofs.Yteepgblpoddcfaa.PFnExactIsLabel Go.Proofs.YteepgblpoddcfaaW.PrintWords Go.Proofs.YteepgblpoddcfaaW.PrintLast

theorem FnExactIsLabel : laws_FnExactIsLabel.Pure := by
  intro s _
  refine ⟨1, ?_⟩
  unfold laws_FnExactIsLabel.f spec_IsLabel.f
  by_cases hs : (s.size : Int) > 1048576
  · rw [if_pos hs]
  · obtain ⟨l, rfl⟩ := B_of s
    rw [B_size] at hs
    obtain ⟨b, h1, h2⟩ := label_same l (by omega)
    rw [if_neg (by rw [B_size]; exact hs), h1, h2]
    simp

end Go.Proofs.Yteepgblpoddcfaa.Pure
