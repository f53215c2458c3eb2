/- The walk of guarded. -/
import Derived.Test.YtfcadppidgkoaaaAllguarded
import Derived.Test.YtfcadppidgkoaaaBase
import Derived.Test.YtfcadppidgkoaaaIdx
namespace Go.Proofs.Ytfcadppidgkoaaa
open Go.RowKit Go.Proofs.YtfcadppidgkoaaaW.PrintWords
set_option linter.unusedVariables false
set_option linter.unusedSimpArgs false

theorem guarded_test : Aguarded.TestSays guaP (fun u => Wf isLet u) := by
  intro u w N x hw hl
  cases u with
  | leaf k a b =>
    obtain ⟨o, cap, c0, _, _, _, _⟩ := hl.at
    clear hl
    obtain rfl := kind_leaf hw
    clear hw
    simp only [Tm.kind] at c0
    go_enter Try.func143, Try.ntmps143
    go_wp2_with fail
    go_ret
    exact ⟨rfl, rfl⟩
  | un k a b t =>
    obtain ⟨o, cap, c0, _, _, _, _⟩ := hl.at
    clear hl
    have hk : (vl k != 43) = true := by rw [show (43 : Int) = vl 43 from rfl, vl_bne]; simpa using (kind_un hw).2.1
    clear hw
    simp only [Tm.kind] at c0
    go_enter Try.func143, Try.ntmps143
    go_wp2_with fail
    go_ret
    exact ⟨rfl, rfl⟩
  | bin k a b t v =>
    obtain ⟨h0, r, cap, y, z, h1, hn, hk1, hk2, hy, hz⟩ := hl
    obtain ⟨c0, _, _, c3⟩ := hn.cells
    have c4 := hk1.cell
    have c5 := hk2.cell
    obtain ⟨o1, cap1, d1, _, _, _, _⟩ := hy.at
    obtain ⟨o2, cap2, d2, _, _, _, _⟩ := hz.at
    clear hn hk1 hk2 hy hz hw h0 h1
    by_cases hk : (vl k != 43) = true
    · have HV : Hid (guaP (.bin k a b t v) = true) := by simp [Hid, guaP, hk]
      go_enter Try.func143, Try.ntmps143
      go_wp2_with fail
      go_ret
      exact ⟨by rw [HV.out]; rfl, rfl⟩
    · have hk' : (vl k != 43) = false := by simpa using hk
      have HV : Hid (guaP (.bin k a b t v) = (inG t.kind && inG v.kind)) := by simp [Hid, guaP, hk']
      clear hk
      have i1 := indexByte_has [33, 63, 126, 43, 48] t.kind
      have i2 := indexByte_has [33, 63, 126, 43, 48] v.kind
      obtain ⟨m1, e1⟩ : ∃ m, m = Lib.indexByte [33, 63, 126, 43, 48] t.kind := ⟨_, rfl⟩
      obtain ⟨m2, e2⟩ : ∃ m, m = Lib.indexByte [33, 63, 126, 43, 48] v.kind := ⟨_, rfl⟩
      have q1 := idx_calls [33, 63, 126, 43, 48] t.kind w
      have q2 := idx_calls [33, 63, 126, 43, 48] v.kind w
      rw [← e1] at i1 q1
      rw [← e2] at i2 q2
      clear e1 e2
      have HI1 : Hid (decide (0 ≤ m1) = inG t.kind) := i1
      have HI2 : Hid (decide (0 ≤ m2) = inG v.kind) := i2
      clear i1 i2
      by_cases p1 : 0 ≤ m1
      · go_enter Try.func143, Try.ntmps143
        go_wp2_with fail
        refine q1.mono ?_
        rintro e w' ⟨rfl, rfl⟩
        go_wp2_with fail
        refine q2.mono ?_
        rintro e w' ⟨rfl, rfl⟩
        go_wp2_with fail
        go_ret
        exact ⟨by rw [HV.out, ← HI1.out, ← HI2.out, decide_eq_true p1, Bool.true_and]; try rfl, rfl⟩
      · go_enter Try.func143, Try.ntmps143
        go_wp2_with fail
        refine q1.mono ?_
        rintro e w' ⟨rfl, rfl⟩
        go_wp2_with fail
        go_ret
        exact ⟨by rw [HV.out, ← HI1.out, decide_eq_false (show ¬ (0 ≤ m1) by omega), Bool.false_and]; try rfl, rfl⟩
theorem guarded_calls (t : Tm) (w : World) (N x : Nat) (hs : t.size ≤ 1000000) (hw : Wf isLet t) (hl : Lies w N t x) :
    Calls Try.prog 129 #[.pointer (some ⟨x, 0, none⟩)] w fun e w' => e = .returned (.bool ((pre t).all guaP)) ∧ Below w.heap.size w w' := by
  have hc := Aguarded.all_calls guarded_test t w N x hs (wf_pre hw) hl
  clear hl hw
  go_enter Try.func129, Try.ntmps129
  go_wp2_with fail
  refine hc.mono ?_
  rintro e w1 ⟨rfl, hb⟩
  clear hc
  go_wp2_with fail
  go_ret
  exact ⟨rfl, hb⟩

end Go.Proofs.Ytfcadppidgkoaaa
