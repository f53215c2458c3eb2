/- The walk of simpleTerm. -/
import Derived.Test.YtfcadppidgkoaaaReads
import Derived.Test.YtfcadppidgkoaaaSim
namespace Go.Proofs.Ytfcadppidgkoaaa
open Go.RowKit Go.Proofs.YtfcadppidgkoaaaW.PrintWords Go.Proofs.YtfcadppidgkoaaaW.PrintMore Go.Proofs.Ytfcadppidgkoaaa.Pterm
set_option linter.unusedVariables false
set_option linter.unusedSimpArgs false

def simpleOk (l : List UInt8) : Bool := readOk l && ((pre (parsed l).1).all guaP && (pre (parsed l).1).all simP)
theorem simpleOk_read {l : List UInt8} (h : simpleOk l = true) : readOk l = true := by
  unfold simpleOk at h; rw [Bool.and_eq_true] at h; exact h.1
def SimplePost (w : World) (l : List UInt8) (e : Ending) (w' : World) : Prop :=
  Below w.heap.size w w' ∧ ∃ p, e = .returned (.tuple #[.pointer p, .bool (simpleOk l)]) ∧ (simpleOk l = true → ∃ b, p = some ⟨b, 0, none⟩ ∧ Lies w' w.heap.size (parsed l).1 b)
set_option maxHeartbeats 1000000 in
theorem simpleTerm_calls (l : List UInt8) (w : World) (hl : l.length ≤ 140737488351232) :
    Calls Try.prog 55 #[.string (B l)] w (SimplePost w l) := by
  go_enter Try.func55, Try.ntmps55
  go_wp2_with fail
  refine (read_calls l w hl).mono ?_
  rintro e w1 ⟨hb, p, rfl, hp⟩
  rcases hok : readOk l with _ | _
  · have hv : Hid (simpleOk l = false) := by simp [Hid, simpleOk, hok]
    clear hok hp
    go_wp2_with fail
    go_ret2
    exact ⟨hb, p, by rw [hv.out]; rfl, fun h => by rw [hv.out] at h; cases h⟩
  · have hv : Hid (simpleOk l = ((pre (parsed l).1).all guaP && (pre (parsed l).1).all simP)) := by simp [Hid, simpleOk, hok]
    obtain ⟨b, rfl, hli⟩ := hp hok
    have hsz := (read_good hok).2.2.2
    have HG := Lib.hid (read_good hok)
    clear hok hp
    have HL := Lib.hid hli
    have hc := simple_calls _ _ _ _ (by omega) HG.out.2.2.1 hli
    clear hli
    go_wp2_with fail
    refine hc.mono ?_
    rintro e w2 ⟨rfl, hb2⟩
    have hl2 := Lib.hid (HL.out.below hb2)
    replace hb := below_then hb hb.size hb2
    clear hb2 hc
    go_wp2_with fail
    go_ret2
    exact ⟨hb, _, by rw [hv.out]; rfl, fun _ => ⟨b, rfl, hl2.out⟩⟩

end Go.Proofs.Ytfcadppidgkoaaa
