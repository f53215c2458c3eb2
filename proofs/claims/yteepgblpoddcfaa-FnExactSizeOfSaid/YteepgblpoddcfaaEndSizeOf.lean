/- The law FnExactSizeOf, walked: the program's answer is the reference's. -/
import Derived.Test.YteepgblpoddcfaaGoodSizeOf
import Derived.Test.YteepgblpoddcfaaReadbSizeOf
namespace Go.Proofs.Yteepgblpoddcfaa.PFnExactSizeOf
open Go.RowKit Go.Proofs.YteepgblpoddcfaaW.PrintWords Go.Proofs.YteepgblpoddcfaaW.PrintLast Go.Proofs.YteepgblpoddcfaaW.PrintMore
set_option linter.unusedVariables false
set_option linter.unusedSimpArgs false

/-- What both say. -/
def val (l : List UInt8) : Int := if readOk l = true then (parsed l).1.size else 0

set_option maxHeartbeats 1000000 in
theorem SizeOf_calls (l : List UInt8) (w : World) (hl : l.length ≤ 140737488351232) :
    Calls Try.prog 34 #[.string (B l)] w fun e w' => e = .returned (.tuple #[.int .i64 (val l), .bool (readOk l)]) ∧ Below w.heap.size w w' := by
  go_enter Try.func34, Try.ntmps34
  go_wp2_with fail
  refine (read_calls l w hl).mono ?_
  rintro e w1 ⟨hb, p, rfl, hp⟩
  rcases hok : readOk l with _ | _
  · have hv : Hid (val l = 0) := by simp [Hid, val, hok]
    have HO := Lib.hid hok
    clear hok hp
    go_wp2_with fail
    go_ret2
    exact ⟨by rw [hv.out, HO.out]; rfl, hb⟩
  · have hv : Hid (val l = (parsed l).1.size) := by simp [Hid, val, hok]
    obtain ⟨b, rfl, hli⟩ := hp hok
    have hsz := (read_good hok).2.2.2
    have HO := Lib.hid hok
    clear hok hp
    go_wp2_with fail
    refine (size_any 61 _ _ _ _ (by omega) (by omega) hli).mono ?_
    rintro e w' ⟨rfl, rfl⟩
    clear hli
    go_wp2_with fail
    go_ret2
    exact ⟨by rw [hv.out, HO.out]; rfl, hb⟩

theorem spec_val (l : List UInt8) : spec_SizeOf.f 3000 (B l) = some (val l, readOk l) := by
  unfold spec_SizeOf.f val
  rw [good_f l 3000 (by omega), Option.bind_some]
  rcases hok : readOk l with _ | _
  · rfl
  · obtain ⟨h1, h2, h3, h4⟩ := read_good hok
    have e := size_text (parsed l).1 3000 (Wf.names (fun c => let_name) h3) (by rw [← h2]; omega) (by omega)
    rw [← h2] at e
    rw [if_pos rfl, e]; rfl

set_option maxHeartbeats 1000000 in
theorem law_walk (s : ByteArray) (w : World) (hs : s.size ≤ 140737488351232) :
    Calls Try.prog 13 #[.string s] w fun e w' => e = .returned (.bool true) ∧ Below w.heap.size w w' := by
  obtain ⟨l, rfl⟩ := B_of s
  have hz : (B l).size = l.length := B_size l
  rw [hz] at hs
  by_cases hbig : l.length > 1048576
  · go_enter Try.func13, Try.ntmps13
    go_wp2_with fail
    go_ret
    exact ⟨rfl, Below.refl _ _⟩
  · have HF := Lib.hid (spec_val l)
    go_enter Try.func13, Try.ntmps13
    go_wp2_with fail
    refine (spec_SizeOf.calls 3000 (B l) _ _ _ HF.out).mono ?_
    rintro e w1 ⟨rfl, hb1⟩
    go_wp2_with fail
    refine (SizeOf_calls l _ hs).mono ?_
    rintro e w2 ⟨rfl, hb⟩
    replace hb := below_then hb1 hb1.size hb
    clear hb1
    go_wp2_with fail
    go_ret
    exact ⟨rfl, hb⟩

end Go.Proofs.Yteepgblpoddcfaa.PFnExactSizeOf
