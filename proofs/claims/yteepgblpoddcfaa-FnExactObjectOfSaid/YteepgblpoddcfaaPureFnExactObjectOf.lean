/- The program's ObjectOf answers as the reference's, at every text of at most 2^20 bytes. -/
import Derived.Test.YteepgblpoddcfaaLabelObjectOf
namespace Go.Proofs.Yteepgblpoddcfaa.Pure
open Go.RowKit Go.Proofs.Yteepgblpoddcfaa.PFnExactObjectOf Go.Proofs.YteepgblpoddcfaaW.PrintWords Go.Proofs.YteepgblpoddcfaaW.PrintLast

theorem FnExactObjectOf : laws_FnExactObjectOf.Pure := by
  intro s _
  refine ⟨1, ?_⟩
  unfold laws_FnExactObjectOf.f
  by_cases hs : (s.size : Int) > 1048576
  · rw [if_pos hs]
  · obtain ⟨l, rfl⟩ := B_of s
    rw [B_size] at hs
    obtain ⟨b, h1, h2⟩ := label_same l (by omega)
    have e : impl_ObjectOf.f 1 (B l) = spec_ObjectOf.f (B l) := by
      unfold impl_ObjectOf.f spec_ObjectOf.f; rw [h1, h2]
    have hd : ∃ r, spec_ObjectOf.f (B l) = some r := by
      unfold spec_ObjectOf.f
      rw [h1]
      simp only [Option.bind_some, B_toList, B_size]
      cases b with
      | false => exact ⟨_, rfl⟩
      | true =>
        by_cases h3 : l = [126]
        · exact ⟨_, by rw [if_pos rfl, if_pos h3]⟩
        · have h4 : 1 ≤ l.length := by
            cases l with
            | nil => simp [spec_stLabel.f, B_toList, B_size] at h1
            | cons => simp
          have h5 : wrap64 ((l.length : Int) - 1) = (l.length : Int) - 1 := wrap_id (by omega) (by omega)
          try rw [h5]
          refine ⟨_, by rw [if_pos rfl, if_neg h3, if_pos (by omega), if_pos (by omega)]⟩
    obtain ⟨⟨r1, r2⟩, hr⟩ := hd
    rw [if_neg (by rw [B_size]; exact hs), e, hr]
    simp

end Go.Proofs.Yteepgblpoddcfaa.Pure
