/- The walk of SendsLast's test. -/
import Derived.Test.YtjinjanjjecmiaaAllSendsLast
import Derived.Test.YtjinjanjjecmiaaSenses
namespace Go.Proofs.Ytjinjanjjecmiaa
open Go.RowKit Go.Proofs.YtjinjanjjecmiaaW.PrintWords
set_option linter.unusedVariables false
set_option linter.unusedSimpArgs false

theorem last_test : ASendsLast.TestSays senP (fun u => Wf isLet u) := by
  intro u w N x hw hl
  cases u with
  | leaf k a b =>
    obtain ⟨o, cap, c0, _, _, _, _⟩ := hl.at
    clear hl
    obtain rfl := kind_leaf hw
    clear hw
    simp only [Tm.kind] at c0
    go_enter Try.func53, Try.ntmps53
    go_wp2_with fail
    go_ret
    exact ⟨rfl, rfl⟩
  | un k a b t =>
    obtain ⟨h0, r, cap, y, h1, hn, hk1, hy⟩ := hl
    obtain ⟨c0, _, _, c3⟩ := hn.cells
    have c4 := hk1.cell
    obtain ⟨o1, cap1, d1, _, _, _, _⟩ := hy.at
    have q2 : (vl k == 43) = false := by rw [show (43 : Int) = vl 43 from rfl, vl_beq]; simpa using (kind_un hw).2.1
    clear hn hk1 hy hw h0 h1
    rcases hk : (vl k == 33) with _ | _
    · have HV : Hid (senP (.un k a b t) = true) := by simp [Hid, senP, bne, hk]
      go_enter Try.func53, Try.ntmps53
      go_wp2_with fail
      go_ret
      exact ⟨by rw [HV.out]; rfl, rfl⟩
    · have HV : Hid (senP (.un k a b t) = (vl t.kind == 48)) := by simp [Hid, senP, bne, hk]
      go_enter Try.func53, Try.ntmps53
      go_wp2_with fail
      go_ret
      exact ⟨by rw [HV.out]; rfl, rfl⟩
  | bin k a b t v =>
    obtain ⟨h0, r, cap, y, z, h1, hn, hk1, hk2, hy, hz⟩ := hl
    obtain ⟨c0, _, _, c3⟩ := hn.cells
    have c4 := hk1.cell
    have c5 := hk2.cell
    obtain ⟨o1, cap1, d1, _, _, _, _⟩ := hy.at
    obtain ⟨o2, cap2, d2, _, _, _, _⟩ := hz.at
    have q2 : (vl k == 33) = false := by rcases kind_bin hw with rfl | rfl <;> rfl
    clear hn hk1 hk2 hy hz hw h0 h1
    rcases hk : (vl k == 43) with _ | _
    · have HV : Hid (senP (.bin k a b t v) = true) := by simp [Hid, senP, bne, hk]
      go_enter Try.func53, Try.ntmps53
      go_wp2_with fail
      go_ret
      exact ⟨by rw [HV.out]; rfl, rfl⟩
    · rcases h1 : (vl t.kind != 33) with _ | _
      · have HV : Hid (senP (.bin k a b t v) = false) := by
          show _ = _
          simp only [senP]
          rw [h1, show (vl k != 43) = false from by simp [bne, hk]]; rfl
        go_enter Try.func53, Try.ntmps53
        go_wp2_with fail
        go_ret
        exact ⟨by rw [HV.out]; rfl, rfl⟩
      · have HV : Hid (senP (.bin k a b t v) = (vl v.kind != 33)) := by
          show _ = _
          simp only [senP]
          rw [h1, show (vl k != 43) = false from by simp [bne, hk]]; rfl
        go_enter Try.func53, Try.ntmps53
        go_wp2_with fail
        go_ret
        exact ⟨by rw [HV.out]; rfl, rfl⟩

end Go.Proofs.Ytjinjanjjecmiaa
