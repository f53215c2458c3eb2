/- The walk of simple. -/
import Derived.Test.YtfcadppidgkoaaaAllsimple
import Derived.Test.YtfcadppidgkoaaaGua
namespace Go.Proofs.Ytfcadppidgkoaaa
open Go.RowKit Go.Proofs.YtfcadppidgkoaaaW.PrintWords
set_option linter.unusedVariables false
set_option linter.unusedSimpArgs false

theorem simple_test : Asimple.TestSays simP (fun u => Wf isLet u) := by
  intro u w N x hw hl
  cases u with
  | leaf k a b =>
    obtain ⟨o, cap, c0, _, _, _, _⟩ := hl.at
    clear hl
    obtain rfl := kind_leaf hw
    clear hw
    simp only [Tm.kind] at c0
    go_enter Try.func131, Try.ntmps131
    go_wp2_with fail
    go_ret
    exact ⟨rfl, rfl⟩
  | un k a b t =>
    obtain ⟨h0, r, cap, y, h1, hn, hk1, hy⟩ := hl
    obtain ⟨c0, _, _, c3⟩ := hn.cells
    have c4 := hk1.cell
    obtain ⟨o1, cap1, d1, _, _, _, _⟩ := hy.at
    clear hn hk1 hy hw h0 h1
    by_cases hk : (vl k != 42) = true
    · have HV : Hid (simP (.un k a b t) = true) := by simp [Hid, simP, hk]
      go_enter Try.func131, Try.ntmps131
      go_wp2_with fail
      go_ret
      exact ⟨by rw [HV.out]; rfl, rfl⟩
    · have hk' : (vl k != 42) = false := by simpa using hk
      have HV : Hid (simP (.un k a b t) = (vl t.kind == 63)) := by simp [Hid, simP, hk']
      clear hk
      go_enter Try.func131, Try.ntmps131
      go_wp2_with fail
      go_ret
      exact ⟨by rw [HV.out]; rfl, rfl⟩
  | bin k a b t v =>
    obtain ⟨o, cap, c0, _, _, _, _⟩ := hl.at
    clear hl
    have hk : (vl k != 42) = true := by rcases kind_bin hw with rfl | rfl <;> decide
    clear hw
    simp only [Tm.kind] at c0
    go_enter Try.func131, Try.ntmps131
    go_wp2_with fail
    go_ret
    exact ⟨rfl, rfl⟩
theorem simple_calls (t : Tm) (w : World) (N x : Nat) (hs : t.size ≤ 1000000) (hw : Wf isLet t) (hl : Lies w N t x) :
    Calls Try.prog 103 #[.pointer (some ⟨x, 0, none⟩)] w fun e w' => e = .returned (.bool ((pre t).all guaP && (pre t).all simP)) ∧ Below w.heap.size w w' := by
  have hg := guarded_calls t w N x hs hw hl
  have HQ := Lib.hid (wf_pre hw)
  have HL := Lib.hid hl
  rcases hga : (pre t).all guaP with _ | _
  · rw [hga] at hg
    clear hga hl hw
    go_enter Try.func103, Try.ntmps103
    go_wp2_with fail
    refine hg.mono ?_
    rintro e w1 ⟨rfl, hb⟩
    clear hg
    go_wp2_with fail
    go_ret
    exact ⟨rfl, hb⟩
  · rw [hga] at hg
    clear hga hl hw
    go_enter Try.func103, Try.ntmps103
    go_wp2_with fail
    refine hg.mono ?_
    rintro e w1 ⟨rfl, hb⟩
    clear hg
    go_wp2_with fail
    refine (Asimple.all_calls simple_test t w1 N x hs HQ.out (HL.out.below hb)).mono ?_
    rintro e w2 ⟨rfl, hb2⟩
    replace hb := below_then hb hb.size hb2
    clear hb2
    go_wp2_with fail
    go_ret
    exact ⟨rfl, hb⟩

end Go.Proofs.Ytfcadppidgkoaaa
