/- The walk of a term's told: its text, if it is a process. -/
import Derived.Test.YtfcadppidgkoaaaTextW
import Derived.Test.YtfcadppidgkoaaaReads
namespace Go.Proofs.Ytfcadppidgkoaaa
open Go.RowKit Go.Proofs.YtfcadppidgkoaaaW.PrintWords Go.Proofs.YtfcadppidgkoaaaW.PrintMore Go.Proofs.Ytfcadppidgkoaaa.Pterm
set_option linter.unusedVariables false
set_option linter.unusedSimpArgs false

def tolT (t : Tm) : ByteArray × Bool := if readOk t.text = true then (B t.text, true) else (B [], false)
set_option maxHeartbeats 1000000 in
theorem isProc_calls (l : List UInt8) (w : World) (hl : l.length ≤ 140737488351232) :
    Calls Try.prog 73 #[.string (B l)] w fun e w' => e = .returned (.bool (readOk l)) ∧ Below w.heap.size w w' := by
  go_enter Try.func73, Try.ntmps73
  go_wp2_with fail
  refine (read_calls l w hl).mono ?_
  rintro e w1 ⟨hb, p, rfl, hp⟩
  clear hp
  go_wp2_with fail
  go_ret
  exact ⟨rfl, hb⟩
set_option maxHeartbeats 1000000 in
theorem told_calls (t : Tm) (w : World) (N b : Nat) (hw : Wf isLet t) (hlen : t.text.length ≤ 1000000) (hl : Lies w N t b) :
    Calls Try.prog 88 #[.pointer (some ⟨b, 0, none⟩)] w fun e w' => e = .returned (.tuple #[.string (tolT t).1, .bool (tolT t).2]) ∧ Below w.heap.size w w' := by
  have ht := text_any t.size t w N b (Nat.le_refl _) hw hlen hl
  have hp := fun W => isProc_calls t.text W (by omega)
  have HV : Hid (tolT t = if readOk t.text = true then (B t.text, true) else (B [], false)) := rfl
  clear hl hw hlen
  rcases hok : readOk t.text with _ | _
  · rw [hok] at hp HV
    clear hok
    go_enter Try.func88, Try.ntmps88
    go_wp2_with fail
    refine ht.mono ?_
    rintro e w1 ⟨rfl, hb⟩
    go_wp2_with fail
    refine (hp _).mono ?_
    rintro e w2 ⟨rfl, hb2⟩
    replace hb := below_then hb hb.size hb2
    clear hb2 ht hp
    go_wp2_with fail
    go_ret2
    exact ⟨by rw [HV.out]; rfl, hb⟩
  · rw [hok] at hp HV
    clear hok
    go_enter Try.func88, Try.ntmps88
    go_wp2_with fail
    refine ht.mono ?_
    rintro e w1 ⟨rfl, hb⟩
    go_wp2_with fail
    refine (hp _).mono ?_
    rintro e w2 ⟨rfl, hb2⟩
    replace hb := below_then hb hb.size hb2
    clear hb2 ht hp
    go_wp2_with fail
    go_ret2
    exact ⟨by rw [HV.out]; rfl, hb⟩

end Go.Proofs.Ytfcadppidgkoaaa
