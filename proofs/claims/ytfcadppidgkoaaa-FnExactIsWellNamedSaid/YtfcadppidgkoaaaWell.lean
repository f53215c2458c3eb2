/- The walk of IsWellNamed's closure. -/
import Derived.Test.YtfcadppidgkoaaaEachWell
import Derived.Test.YtfcadppidgkoaaaWellP
import Derived.Test.YtfcadppidgkoaaaFree
import Derived.Test.YtfcadppidgkoaaaStill
namespace Go.Proofs.Ytfcadppidgkoaaa
open Go.RowKit Go.Proofs.YtfcadppidgkoaaaW.PrintWords Go.Proofs.Ytfcadppidgkoaaa.EWell
set_option linter.unusedVariables false
set_option linter.unusedSimpArgs false

/-- At block g lie the names taken, at block h lies whether one is twice. -/
structure WT (wb w : World) (g h : Nat) (tv : Int) (bv : Bool) : Prop where
  below : Below wb.heap.size wb w
  tak : ∃ e, w.heap[g]? = some (.cells #[.int .u32 tv] e (0, 0))
  twi : ∃ e, w.heap[h]? = some (.cells #[.bool bv] e (0, 0))
  g1 : wb.heap.size ≤ g
  h1 : wb.heap.size ≤ h
  ne : g ≠ h
section
variable {wb w : World} {g h : Nat} {tv : Int} {bv : Bool}
theorem WT.setT (t : WT wb w g h tv bv) (x : Int) : WT wb (w.setCell ⟨g, 0, none⟩ (.int .u32 x)) g h x bv := by
  obtain ⟨hb, ⟨eg, hg⟩, ⟨eh, hh⟩, g1, h1, ne⟩ := t
  exact ⟨hb.setCell g1 _, ⟨eg, blk_set hg 0 _⟩, ⟨eh, blk_far hh (by simpa using ne.symm) _⟩, g1, h1, ne⟩
theorem WT.setB (t : WT wb w g h tv bv) (x : Bool) : WT wb (w.setCell ⟨h, 0, none⟩ (.bool x)) g h tv x := by
  obtain ⟨hb, ⟨eg, hg⟩, ⟨eh, hh⟩, g1, h1, ne⟩ := t
  exact ⟨hb.setCell h1 _, ⟨eg, blk_far hg (by simpa using ne) _⟩, ⟨eh, blk_set hh 0 _⟩, g1, h1, ne⟩
theorem WT.drewN (t : WT wb w g h tv bv) (m : Nat) : WT wb (w.drewN m) g h tv bv := by
  obtain ⟨hb, ⟨eg, hg⟩, ⟨eh, hh⟩, g1, h1, ne⟩ := t
  exact ⟨pw_below_drewN hb m, ⟨eg, hg⟩, ⟨eh, hh⟩, g1, h1, ne⟩
theorem WT.cells (t : WT wb w g h tv bv) : w.cell? ⟨g, 0, none⟩ = some (.int .u32 tv) ∧ w.cell? ⟨h, 0, none⟩ = some (.bool bv) ∧ w.frozen? ⟨g, 0, none⟩ = false ∧ w.frozen? ⟨h, 0, none⟩ = false := by
  obtain ⟨hb, ⟨eg, hg⟩, ⟨eh, hh⟩, g1, h1, ne⟩ := t
  exact ⟨blk_cell hg 0, blk_cell hh 0, blk_frozen hg 0, blk_frozen hh 0⟩
end
/-- What the closure has been told: the signs l. -/
def WTold (wb w : World) (g h : Nat) (p : UInt8 → Bool) (l : List Tm) : Prop := WT wb w g h (setI (orS p (inS (blS l)))) (twF p (blS l))

attribute [local irreducible] wpStill
set_option maxHeartbeats 4000000 in
set_option maxRecDepth 100000 in
theorem well_closure {p : UInt8 → Bool} {wb w : World} {g h : Nat} {l : List Tm} (ht : WTold wb w g h p l) (u : Tm) (N x : Nat) (hw : Wf isLet u) (hu : Lies wb N u x) :
    Calls Try.prog 51 #[.pointer (some ⟨x, 0, none⟩), .pointer (some ⟨h, 0, none⟩), .pointer (some ⟨g, 0, none⟩)] w fun e w' => e = .returned (.tuple #[]) ∧ WTold wb w' g h p (l ++ [u]) := by
  have T0 : WT wb w g h (setI (orS p (inS (blS l)))) (twF p (blS l)) := ht
  have HU := Lib.hid hu
  have hS := blS_snoc l u
  obtain ⟨o, cap, c0, c1, c2, c3, _⟩ := (hu.below T0.below).at
  clear ht hu c1 c2 c3
  rcases bd_kids u hw with ⟨hkd, hnb, _⟩ | ⟨hkd, _⟩
  · have hbi : bindsB u.kind = true := by rw [bindsB_eq]; simpa using hkd
    have hS2 : blS (l ++ [u]) = blS l ++ [u.nb] := by rw [hS]; unfold bndOf; rw [if_pos hkd]
    have HV : Hid (twF p (blS (l ++ [u])) = (twF p (blS l) || orS p (inS (blS l)) u.nb)) := by show _ = _; rw [hS2, twF_snoc]
    have HX : Hid (setI (orS p (inS (blS (l ++ [u])))) = Go.bits .or .u32 (setI (orS p (inS (blS l)))) (setI (eqS u.nb))) := by
      show _ = _
      rw [hS2, set_or]
      congr 1; funext c
      simp only [orS, inS, eqS, List.contains_append, List.contains_cons, List.contains_nil, Bool.or_false, Bool.or_assoc]
    have hpi := set_test (orS p (inS (blS l))) hnb
    have HN := Lib.hid hnb
    have hbc := binds_calls u.kind x w c0
    rw [hbi] at hbc
    clear hS hS2 hkd hbi hw c0 hnb
    generalize setI (orS p (inS (blS l))) = tv at *
    rcases htw : twF p (blS l) with _ | _
    · rw [htw] at T0
      rcases hin : orS p (inS (blS l)) u.nb with _ | _
      · have hz : (Go.bits .and .u32 tv (setI (eqS u.nb)) != 0) = false := by rw [bne_eq_false_iff_eq]; exact hpi.mpr hin
        have HR : Hid (twF p (blS (l ++ [u])) = false) := by show _ = _; rw [HV.out, htw, hin]; rfl
        clear htw hin hpi HV
        obtain ⟨cg, ch, fg, fh⟩ := T0.cells
        go_enter Try.func51, Try.ntmps51
        go_wp2_with fail
        refine hbc.mono ?_
        rintro e w' ⟨rfl, rfl⟩
        go_wp2_with fail
        clear cg ch fg fh hbc
        refine wp_region_still_tail 11 (by kernel_rfl) (by kernel_rfl) ?_
        simp only [List.take_succ_cons, List.take_zero, List.drop_succ_cons, List.drop_zero]
        change wpStill _ _ (w.drewN 1) (fun a' => wpList _ _ _ _ a' (w.drewN 1)) _ _
        have T1 := T0.drewN 1
        generalize w.drewN 1 = W1 at T1 ⊢
        obtain ⟨cg1, ch1, fg1, fh1⟩ := T1.cells
        obtain ⟨_, _, _, _, cx1, _, _⟩ := (HU.out.below T1.below).at
        have HT1 := Lib.hid T1
        clear T1 T0
        iterate 7 still_step
        still_call (bit_same HN.out _)
        iterate 3 still_step
        refine wpStill_nil ?_
        go_wp2
        have T2 := HT1.out.setB false
        generalize W1.setCell ⟨h, 0, none⟩ (.bool false) = W2 at T2 ⊢
        clear cg1 ch1 fg1 fh1 cx1
        refine wp_region_still_tail 7 (by kernel_rfl) (by kernel_rfl) ?_
        simp only [List.take_succ_cons, List.take_zero, List.drop_succ_cons, List.drop_zero]
        change wpStill _ _ (W2.drewN 1) (fun a' => wpList _ _ _ _ a' (W2.drewN 1)) _ _
        have T3 := T2.drewN 1
        generalize W2.drewN 1 = W3 at T3 ⊢
        obtain ⟨cg3, ch3, fg3, fh3⟩ := T3.cells
        obtain ⟨_, _, _, _, cx3, _, _⟩ := (HU.out.below T3.below).at
        have HT3 := Lib.hid T3
        clear T3 T2
        iterate 5 still_step
        still_call (bit_same HN.out _)
        still_step
        refine wpStill_nil ?_
        go_wp2
        go_end0
        refine ⟨rfl, ?_⟩
        show WT _ _ _ _ _ _
        rw [HX.out, HR.out]
        exact HT3.out.setT _
      · have hz : (Go.bits .and .u32 tv (setI (eqS u.nb)) != 0) = true := by rw [bne_iff_ne, ne_eq, hpi, hin]; decide
        have HR : Hid (twF p (blS (l ++ [u])) = true) := by show _ = _; rw [HV.out, htw, hin]; rfl
        clear htw hin hpi HV
        obtain ⟨cg, ch, fg, fh⟩ := T0.cells
        go_enter Try.func51, Try.ntmps51
        go_wp2_with fail
        refine hbc.mono ?_
        rintro e w' ⟨rfl, rfl⟩
        go_wp2_with fail
        clear cg ch fg fh hbc
        refine wp_region_still_tail 11 (by kernel_rfl) (by kernel_rfl) ?_
        simp only [List.take_succ_cons, List.take_zero, List.drop_succ_cons, List.drop_zero]
        change wpStill _ _ (w.drewN 1) (fun a' => wpList _ _ _ _ a' (w.drewN 1)) _ _
        have T1 := T0.drewN 1
        generalize w.drewN 1 = W1 at T1 ⊢
        obtain ⟨cg1, ch1, fg1, fh1⟩ := T1.cells
        obtain ⟨_, _, _, _, cx1, _, _⟩ := (HU.out.below T1.below).at
        have HT1 := Lib.hid T1
        clear T1 T0
        iterate 7 still_step
        still_call (bit_same HN.out _)
        iterate 3 still_step
        refine wpStill_nil ?_
        go_wp2
        have T2 := HT1.out.setB true
        generalize W1.setCell ⟨h, 0, none⟩ (.bool true) = W2 at T2 ⊢
        clear cg1 ch1 fg1 fh1 cx1
        refine wp_region_still_tail 7 (by kernel_rfl) (by kernel_rfl) ?_
        simp only [List.take_succ_cons, List.take_zero, List.drop_succ_cons, List.drop_zero]
        change wpStill _ _ (W2.drewN 1) (fun a' => wpList _ _ _ _ a' (W2.drewN 1)) _ _
        have T3 := T2.drewN 1
        generalize W2.drewN 1 = W3 at T3 ⊢
        obtain ⟨cg3, ch3, fg3, fh3⟩ := T3.cells
        obtain ⟨_, _, _, _, cx3, _, _⟩ := (HU.out.below T3.below).at
        have HT3 := Lib.hid T3
        clear T3 T2
        iterate 5 still_step
        still_call (bit_same HN.out _)
        still_step
        refine wpStill_nil ?_
        go_wp2
        go_end0
        refine ⟨rfl, ?_⟩
        show WT _ _ _ _ _ _
        rw [HX.out, HR.out]
        exact HT3.out.setT _
    · rw [htw] at T0
      have HR : Hid (twF p (blS (l ++ [u])) = true) := by show _ = _; rw [HV.out, htw]; rfl
      clear htw hpi HV
      obtain ⟨cg, ch, fg, fh⟩ := T0.cells
      go_enter Try.func51, Try.ntmps51
      go_wp2_with fail
      refine hbc.mono ?_
      rintro e w' ⟨rfl, rfl⟩
      go_wp2_with fail
      clear cg ch fg fh hbc
      refine wp_region_still_tail 11 (by kernel_rfl) (by kernel_rfl) ?_
      simp only [List.take_succ_cons, List.take_zero, List.drop_succ_cons, List.drop_zero]
      change wpStill _ _ (w.drewN 1) (fun a' => wpList _ _ _ _ a' (w.drewN 1)) _ _
      have T1 := T0.drewN 1
      generalize w.drewN 1 = W1 at T1 ⊢
      obtain ⟨cg1, ch1, fg1, fh1⟩ := T1.cells
      obtain ⟨_, _, _, _, cx1, _, _⟩ := (HU.out.below T1.below).at
      have HT1 := Lib.hid T1
      clear T1 T0
      iterate 2 still_step
      refine still_skip (by kernel_rfl) ?_
      simp only [Act.put, List.setIfInBounds_toArray, List.set_cons_zero, List.set_cons_succ]
      refine still_skip (by kernel_rfl) ?_
      simp only [Act.put, List.setIfInBounds_toArray, List.set_cons_zero, List.set_cons_succ]
      refine still_skip (by kernel_rfl) ?_
      simp only [Act.put, List.setIfInBounds_toArray, List.set_cons_zero, List.set_cons_succ]
      refine still_skip (by kernel_rfl) ?_
      simp only [Act.put, List.setIfInBounds_toArray, List.set_cons_zero, List.set_cons_succ]
      refine still_skip (by kernel_rfl) ?_
      simp only [Act.put, List.setIfInBounds_toArray, List.set_cons_zero, List.set_cons_succ]
      refine still_skip (by kernel_rfl) ?_
      simp only [Act.put, List.setIfInBounds_toArray, List.set_cons_zero, List.set_cons_succ]
      refine still_skip (by kernel_rfl) ?_
      simp only [Act.put, List.setIfInBounds_toArray, List.set_cons_zero, List.set_cons_succ]
      refine still_skip (by kernel_rfl) ?_
      simp only [Act.put, List.setIfInBounds_toArray, List.set_cons_zero, List.set_cons_succ]
      still_step
      refine wpStill_nil ?_
      go_wp2
      have T2 := HT1.out.setB true
      generalize W1.setCell ⟨h, 0, none⟩ (.bool true) = W2 at T2 ⊢
      clear cg1 ch1 fg1 fh1 cx1
      refine wp_region_still_tail 7 (by kernel_rfl) (by kernel_rfl) ?_
      simp only [List.take_succ_cons, List.take_zero, List.drop_succ_cons, List.drop_zero]
      change wpStill _ _ (W2.drewN 1) (fun a' => wpList _ _ _ _ a' (W2.drewN 1)) _ _
      have T3 := T2.drewN 1
      generalize W2.drewN 1 = W3 at T3 ⊢
      obtain ⟨cg3, ch3, fg3, fh3⟩ := T3.cells
      obtain ⟨_, _, _, _, cx3, _, _⟩ := (HU.out.below T3.below).at
      have HT3 := Lib.hid T3
      clear T3 T2
      iterate 5 still_step
      still_call (bit_same HN.out _)
      still_step
      refine wpStill_nil ?_
      go_wp2
      go_end0
      refine ⟨rfl, ?_⟩
      show WT _ _ _ _ _ _
      rw [HX.out, HR.out]
      exact HT3.out.setT _
  · have hbi : bindsB u.kind = false := by rw [bindsB_eq]; simpa using hkd
    have hS2 : Hid (blS (l ++ [u]) = blS l) := by show _ = _; rw [hS]; unfold bndOf; rw [if_neg hkd, List.append_nil]
    have hbc := binds_calls u.kind x w c0
    rw [hbi] at hbc
    have HT := Lib.hid T0
    clear hS hkd hbi hw c0 T0
    go_enter Try.func51, Try.ntmps51
    go_wp2_with fail
    refine hbc.mono ?_
    rintro e w' ⟨rfl, rfl⟩
    go_wp2_with fail
    go_end0
    exact ⟨rfl, by show WT _ _ _ _ _ _; rw [hS2.out]; exact HT.out⟩

end Go.Proofs.Ytfcadppidgkoaaa
