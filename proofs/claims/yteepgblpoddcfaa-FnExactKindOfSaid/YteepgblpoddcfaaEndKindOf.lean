/- The law FnExactKindOf, walked: the program's answer is the reference's. -/
import Derived.Test.YteepgblpoddcfaaGoodKindOf
import Derived.Test.YteepgblpoddcfaaReadbKindOf
namespace Go.Proofs.Yteepgblpoddcfaa.PFnExactKindOf
open Go.RowKit Go.Proofs.YteepgblpoddcfaaW.PrintWords Go.Proofs.YteepgblpoddcfaaW.PrintLast Go.Proofs.YteepgblpoddcfaaW.PrintMore
set_option linter.unusedVariables false
set_option linter.unusedSimpArgs false

/-- What both say. -/
def val (l : List UInt8) : ByteArray := if readOk l = true then B [(parsed l).1.kind] else B []

set_option maxHeartbeats 1000000 in
theorem KindOf_calls (l : List UInt8) (w : World) (hl : l.length ≤ 140737488351232) :
    Calls Try.prog 32 #[.string (B l)] w fun e w' => e = .returned (.tuple #[.string (val l), .bool (readOk l)]) ∧ Below w.heap.size w w' := by
  go_enter Try.func32, Try.ntmps32
  go_wp2_with fail
  refine (read_calls l w hl).mono ?_
  rintro e w1 ⟨hb, p, rfl, hp⟩
  rcases hok : readOk l with _ | _
  · have hv : Hid (val l = B []) := by simp [Hid, val, hok]
    have HO := Lib.hid hok
    clear hok hp
    go_wp2_with fail
    go_ret2
    exact ⟨by rw [hv.out, HO.out]; rfl, hb⟩
  · have hv : Hid (val l = B [(parsed l).1.kind]) := by simp [Hid, val, hok]
    obtain ⟨b, rfl, hli⟩ := hp hok
    have hsz := (read_good hok).2.2.2
    have HO := Lib.hid hok
    clear hok hp
    obtain ⟨o, cap, c0, _, _, _, _⟩ := hli.at
    obtain ⟨v0, v1⟩ := vl_range (parsed l).1.kind
    have HE := Lib.hid (enc_small (kind_small (read_good HO.out).2.2.1))
    clear hli hsz
    go_wp2_with fail
    go_ret2
    exact ⟨by rw [hv.out, HO.out, ← HE.out]; rfl, hb⟩

theorem spec_val (l : List UInt8) : spec_KindOf.f 3000 (B l) = some (val l, readOk l) := by
  unfold spec_KindOf.f val
  rw [good_f l 3000 (by omega), Option.bind_some]
  rcases hok : readOk l with _ | _
  · rfl
  · obtain ⟨h1, h2, h3, h4⟩ := read_good hok
    have e := kind_text (t := (parsed l).1) (k := 3000) (Wf.names (fun c => let_name) h3) (by rw [← h2]; omega) (by omega)
    rw [← h2] at e
    rw [if_pos rfl, e, if_pos rfl, Option.bind_some]
    congr 2
    simp [strOfNums, B, vl]

set_option maxHeartbeats 1000000 in
theorem law_walk (s : ByteArray) (w : World) (hs : s.size ≤ 140737488351232) :
    Calls Try.prog 12 #[.string s] w fun e w' => e = .returned (.bool true) ∧ Below w.heap.size w w' := by
  obtain ⟨l, rfl⟩ := B_of s
  have hz : (B l).size = l.length := B_size l
  rw [hz] at hs
  by_cases hbig : l.length > 1048576
  · go_enter Try.func12, Try.ntmps12
    go_wp2_with fail
    go_ret
    exact ⟨rfl, Below.refl _ _⟩
  · have HF := Lib.hid (spec_val l)
    go_enter Try.func12, Try.ntmps12
    go_wp2_with fail
    refine (spec_KindOf.calls 3000 (B l) _ _ _ HF.out).mono ?_
    rintro e w1 ⟨rfl, hb1⟩
    go_wp2_with fail
    refine (KindOf_calls l _ hs).mono ?_
    rintro e w2 ⟨rfl, hb⟩
    replace hb := below_then hb1 hb1.size hb
    clear hb1
    go_wp2_with fail
    go_ret
    exact ⟨rfl, hb⟩

end Go.Proofs.Yteepgblpoddcfaa.PFnExactKindOf
