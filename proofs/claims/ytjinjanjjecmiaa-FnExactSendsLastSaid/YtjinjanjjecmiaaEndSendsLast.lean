/- The law FnExactSendsLast, walked: the program's answer is the reference's. -/
import Derived.Test.YtjinjanjjecmiaaGoodSendsLast
import Derived.Test.YtjinjanjjecmiaaLastSendsLast
import Derived.Test.YtjinjanjjecmiaaReadb
import Derived.Test.YtjinjanjjecmiaaLas
namespace Go.Proofs.Ytjinjanjjecmiaa.PFnExactSendsLast
open Go.RowKit Go.Proofs.YtjinjanjjecmiaaW.PrintWords Go.Proofs.YtjinjanjjecmiaaW.PrintLast Go.Proofs.YtjinjanjjecmiaaW.PrintMore Go.Proofs.Ytjinjanjjecmiaa.Pterm Go.Proofs.Ytjinjanjjecmiaa.PSendsLast
set_option linter.unusedVariables false
set_option linter.unusedSimpArgs false

/-- What both say. -/
def val (l : List UInt8) : Bool := readOk l && (pre (parsed l).1).all senP

set_option maxHeartbeats 1000000 in
theorem SendsLast_calls (l : List UInt8) (w : World) (hl : l.length ≤ 140737488351232) :
    Calls Try.prog 20 #[.string (B l)] w fun e w' => e = .returned (.tuple #[.bool (val l), .bool (readOk l)]) ∧ Below w.heap.size w w' := by
  go_enter Try.func20, Try.ntmps20
  go_wp2_with fail
  refine (read_calls l w hl).mono ?_
  rintro e w1 ⟨hb, p, rfl, hp⟩
  rcases hok : readOk l with _ | _
  · have hv : Hid (val l = false) := by simp [Hid, val, hok]
    have HO := Lib.hid hok
    clear hok hp
    go_wp2_with fail
    go_ret2
    exact ⟨by rw [hv.out, HO.out]; rfl, hb⟩
  · have hv : Hid (val l = (pre (parsed l).1).all senP) := by simp [Hid, val, hok]
    obtain ⟨b, rfl, hli⟩ := hp hok
    have hsz := (read_good hok).2.2.2
    have HO := Lib.hid hok
    have HG := Lib.hid (read_good hok)
    clear hok hp
    go_wp2_with fail
    refine (ASendsLast.all_calls last_test _ _ _ _ (by omega) (wf_pre HG.out.2.2.1) hli).mono ?_
    rintro e w2 ⟨rfl, hb2⟩
    replace hb := below_then hb hb.size hb2
    clear hli hb2
    go_wp2_with fail
    go_ret2
    exact ⟨by rw [hv.out, HO.out]; rfl, hb⟩

theorem spec_val (l : List UInt8) : spec_SendsLast.f 3000 (B l) = some (val l, readOk l) := by
  unfold spec_SendsLast.f val
  rw [good_f l 3000 (by omega), Option.bind_some]
  rcases hok : readOk l with _ | _
  · rfl
  · obtain ⟨h1, h2, h3, h4⟩ := read_good hok
    have e := last_text (parsed l).1 false 3000 (Wf.names (fun c => let_name) h3) (by rw [← h2]; omega) (by omega)
    rw [← h2] at e
    rw [if_pos rfl, e]; rfl

set_option maxHeartbeats 1000000 in
theorem law_walk (s : ByteArray) (w : World) (hs : s.size ≤ 140737488351232) :
    Calls Try.prog 5 #[.string s] w fun e w' => e = .returned (.bool true) ∧ Below w.heap.size w w' := by
  obtain ⟨l, rfl⟩ := B_of s
  have hz : (B l).size = l.length := B_size l
  rw [hz] at hs
  by_cases hbig : l.length > 1048576
  · go_enter Try.func5, Try.ntmps5
    go_wp2_with fail
    go_ret
    exact ⟨rfl, Below.refl _ _⟩
  · have HF := Lib.hid (spec_val l)
    go_enter Try.func5, Try.ntmps5
    go_wp2_with fail
    refine (spec_SendsLast.calls 3000 (B l) _ _ _ HF.out).mono ?_
    rintro e w1 ⟨rfl, hb1⟩
    go_wp2_with fail
    refine (SendsLast_calls l _ hs).mono ?_
    rintro e w2 ⟨rfl, hb⟩
    replace hb := below_then hb1 hb1.size hb
    clear hb1
    go_wp2_with fail
    go_ret
    exact ⟨rfl, hb⟩

end Go.Proofs.Ytjinjanjjecmiaa.PFnExactSendsLast
