/- The walk of a coder's told. -/
import Derived.Test.YtfcadppidgkoaaaIsProc
namespace Go.Proofs.Ytfcadppidgkoaaa
open Go.RowKit Go.Proofs.YtfcadppidgkoaaaW.PrintWords Go.Proofs.YtfcadppidgkoaaaW.PrintMore Go.Proofs.Ytfcadppidgkoaaa.Pterm
set_option linter.unusedVariables false
set_option linter.unusedSimpArgs false

/-- What told hands back. -/
def toldS (bad : Bool) (l : List UInt8) : ByteArray × Bool := if bad = false ∧ readOk l = true then (B l, true) else (B [], false)
set_option maxHeartbeats 1000000 in
theorem coderTold_calls (g : Nat) (bad : Bool) (l : List UInt8) (w : World) (hc : w.cell? ⟨g, 0, none⟩ = some (.bool bad)) (hl : l.length ≤ 140737488351232) :
    Calls Try.prog 68 #[.pointer (some ⟨g, 0, none⟩), .string (B l)] w fun e w' => e = .returned (.tuple #[.string (toldS bad l).1, .bool (toldS bad l).2]) ∧ Below w.heap.size w w' := by
  cases bad with
  | true =>
    have hv : Hid (toldS true l = (B [], false)) := by simp [Hid, toldS]
    go_enter Try.func68, Try.ntmps68
    go_wp2_with fail
    go_ret2
    exact ⟨by rw [hv.out]; rfl, Below.refl _ _⟩
  | false =>
    have hp := isProcess_calls l w hl
    rcases hok : readOk l with _ | _
    · rw [hok] at hp
      have hv : Hid (toldS false l = (B [], false)) := by simp [Hid, toldS, hok]
      clear hok
      go_enter Try.func68, Try.ntmps68
      go_wp2_with fail
      refine hp.mono ?_
      rintro e w1 ⟨rfl, hb⟩
      clear hp
      go_wp2_with fail
      go_ret2
      exact ⟨by rw [hv.out]; rfl, hb⟩
    · rw [hok] at hp
      have hv : Hid (toldS false l = (B l, true)) := by simp [Hid, toldS, hok]
      clear hok
      go_enter Try.func68, Try.ntmps68
      go_wp2_with fail
      refine hp.mono ?_
      rintro e w1 ⟨rfl, hb⟩
      clear hp
      go_wp2_with fail
      go_ret2
      exact ⟨by rw [hv.out]; rfl, hb⟩

end Go.Proofs.Ytfcadppidgkoaaa
