/- The law FnExactBoundNames, walked: the program's answer is the reference's. -/
import Derived.Test.YtjinjanjjecmiaaRefsBoundNames
import Derived.Test.YtjinjanjjecmiaaBindersBoundNames
import Derived.Test.YtjinjanjjecmiaaAddsBoundNames
import Derived.Test.YtjinjanjjecmiaaReads
import Derived.Test.YtjinjanjjecmiaaLetters
import Derived.Test.YtjinjanjjecmiaaBound
namespace Go.Proofs.Ytjinjanjjecmiaa.PFnExactBoundNames
open Go.RowKit Go.Proofs.YtjinjanjjecmiaaW.PrintWords Go.Proofs.YtjinjanjjecmiaaW.PrintLast Go.Proofs.YtjinjanjjecmiaaW.PrintMore Go.Proofs.Ytjinjanjjecmiaa.Pterm Go.Proofs.Ytjinjanjjecmiaa.PBoundNames
set_option linter.unusedVariables false
set_option linter.unusedSimpArgs false

/-- What both say. -/
def val (l : List UInt8) : ByteArray := if readOk l = true then B (sortL (parsed l).1.bd) else B []

set_option maxHeartbeats 1000000 in
theorem BoundNames_calls (l : List UInt8) (w : World) (hl : l.length ≤ 140737488351232) :
    Calls Try.prog 33 #[.string (B l)] w fun e w' => e = .returned (.tuple #[.string (val l), .bool (readOk l)]) ∧ Below w.heap.size w w' := by
  go_enter Try.func33, Try.ntmps33
  go_wp2_with fail
  refine (read_calls l w hl).mono ?_
  rintro e w1 ⟨hb, p, rfl, hp⟩
  rcases hok : readOk l with _ | _
  · have hv : Hid (val l = B []) := by simp [Hid, val, hok]
    have HO := Lib.hid hok
    clear hok hp
    go_wp2_with fail
    go_ret2
    exact ⟨by rw [hv.out, HO.out]; rfl, hb⟩
  · have hv : Hid (val l = B (sortL (parsed l).1.bd)) := by simp [Hid, val, hok]
    obtain ⟨b, rfl, hli⟩ := hp hok
    have hsz := (read_good hok).2.2.2
    have hw := (read_good hok).2.2.1
    have HO := Lib.hid hok
    clear hok hp
    go_wp2_with fail
    refine (bound_any 61 _ _ _ _ (by omega) (by omega) hw hli).mono ?_
    rintro e w2 ⟨rfl, rfl⟩
    clear hli
    go_wp2_with fail
    refine (letters_calls _ _).mono ?_
    rintro e w2 ⟨rfl, rfl⟩
    go_wp2_with fail
    go_ret2
    exact ⟨by rw [hv.out, HO.out]; rfl, hb⟩

theorem spec_val (l : List UInt8) : spec_BoundNames.f 3000 (B l) = some (val l, readOk l) := by
  unfold spec_BoundNames.f val
  rw [good_f l 3000 (by omega), Option.bind_some]
  rcases hok : readOk l with _ | _
  · rfl
  · obtain ⟨h1, h2, h3, h4⟩ := read_good hok
    have e := binders_text (parsed l).1 3000 (Wf.names (fun c => let_name) h3) (by rw [← h2]; omega) (by omega)
    rw [← h2] at e
    have hlen := binders_len (parsed l).1
    have hlet := binders_let h3
    have e2 := both_f [] (parsed l).1.binders (by simp) (by omega) 3000 (by simp; omega)
    have e3 : spec_tmBoth.f 3000 (⟨#[]⟩ : ByteArray) (B (parsed l).1.binders) = some (B (sortL (parsed l).1.bd)) := by
      refine e2.trans ?_
      rw [← sort_no, both_sort _ _ hlet, binders_in]
      rfl
    rw [if_pos rfl, e, Option.bind_some, e3]; rfl

set_option maxHeartbeats 1000000 in
theorem law_walk (s : ByteArray) (w : World) (hs : s.size ≤ 140737488351232) :
    Calls Try.prog 10 #[.string s] w fun e w' => e = .returned (.bool true) ∧ Below w.heap.size w w' := by
  obtain ⟨l, rfl⟩ := B_of s
  have hz : (B l).size = l.length := B_size l
  rw [hz] at hs
  by_cases hbig : l.length > 1048576
  · go_enter Try.func10, Try.ntmps10
    go_wp2_with fail
    go_ret
    exact ⟨rfl, Below.refl _ _⟩
  · have HF := Lib.hid (spec_val l)
    go_enter Try.func10, Try.ntmps10
    go_wp2_with fail
    refine (spec_BoundNames.calls 3000 (B l) _ _ _ HF.out).mono ?_
    rintro e w1 ⟨rfl, hb1⟩
    go_wp2_with fail
    refine (BoundNames_calls l _ hs).mono ?_
    rintro e w2 ⟨rfl, hb⟩
    replace hb := below_then hb1 hb1.size hb
    clear hb1
    go_wp2_with fail
    go_ret
    exact ⟨rfl, hb⟩

end Go.Proofs.Ytjinjanjjecmiaa.PFnExactBoundNames
