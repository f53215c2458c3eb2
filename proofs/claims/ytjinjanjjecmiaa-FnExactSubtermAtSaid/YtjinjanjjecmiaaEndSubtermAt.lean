/- The law FnExactSubtermAt, walked: the program's answer is the reference's. -/
import Derived.Test.YtjinjanjjecmiaaGoodSubtermAt
import Derived.Test.YtjinjanjjecmiaaSubSubtermAt
import Derived.Test.YtjinjanjjecmiaaReadb
import Derived.Test.YtjinjanjjecmiaaTextW
namespace Go.Proofs.Ytjinjanjjecmiaa.PFnExactSubtermAt
open Go.RowKit Go.Proofs.YtjinjanjjecmiaaW.PrintWords Go.Proofs.YtjinjanjjecmiaaW.PrintLast Go.Proofs.YtjinjanjjecmiaaW.PrintMore Go.Proofs.Ytjinjanjjecmiaa.Pterm Go.Proofs.Ytjinjanjjecmiaa.PSubtermAt
set_option linter.unusedVariables false
set_option linter.unusedSimpArgs false

/-- What both say. -/
def val (l path : List UInt8) : ByteArray × Bool := if readOk l = true then subRes ((parsed l).1.sub path) else (B [], false)

set_option maxHeartbeats 1000000 in
theorem SubtermAt_calls (l path : List UInt8) (w : World) (hl : l.length ≤ 140737488351232) (hp : path.length ≤ 140737488351232) :
    Calls Try.prog 24 #[.string (B l), .string (B path)] w fun e w' => e = .returned (.tuple #[.string (val l path).1, .bool (val l path).2]) ∧ Below w.heap.size w w' := by
  go_enter Try.func24, Try.ntmps24
  go_wp2_with fail
  refine (read_calls l w hl).mono ?_
  rintro e w1 ⟨hb, p, rfl, hpp⟩
  rcases hok : readOk l with _ | _
  · have hv : Hid (val l path = (B [], false)) := by simp [Hid, val, hok]
    clear hok hpp
    go_wp2_with fail
    go_ret2
    exact ⟨by rw [hv.out]; rfl, hb⟩
  · have hv : Hid (val l path = subRes ((parsed l).1.sub path)) := by simp [Hid, val, hok]
    obtain ⟨b, rfl, hli⟩ := hpp hok
    have HG := Lib.hid (read_good hok)
    clear hok hpp
    go_wp2_with fail
    refine (at_calls _ path _ _ _ hp hli).mono ?_
    rintro e w' ⟨rfl, hor⟩
    rcases hs : (parsed l).1.sub path with _ | u
    · rw [hs] at hv hor
      clear hs hli
      simp only [] at hor
      subst hor
      go_wp2_with fail
      go_ret2
      exact ⟨by rw [hv.out]; rfl, hb⟩
    · rw [hs] at hv hor
      obtain ⟨x, rfl, hx⟩ := hor
      have hu := sub_wf path HG.out.2.2.1 hs
      have hul : u.text.length ≤ 1000000 := by
        have h1 := HG.out.1
        have h2 := congrArg List.length HG.out.2.1
        have := hu.2.1
        omega
      have HU := Lib.hid hu
      clear hs hli hu
      go_wp2_with fail
      refine (text_any u.size u _ _ _ (Nat.le_refl _) HU.out.1 hul hx).mono ?_
      rintro e w2 ⟨rfl, hb2⟩
      clear hx
      replace hb := below_then hb hb.size hb2
      clear hb2
      go_wp2_with fail
      go_ret2
      exact ⟨by rw [hv.out]; rfl, hb⟩

theorem spec_val (l path : List UInt8) (hp : path.length ≤ 1048576) : spec_SubtermAt.f 2000000 (B l) (B path) = some ((val l path).1, (val l path).2) := by
  unfold spec_SubtermAt.f val
  rw [good_f l 2000000 (by omega), Option.bind_some]
  rcases hok : readOk l with _ | _
  · rfl
  · obtain ⟨h1, h2, h3, h4⟩ := read_good hok
    have e := at_text path (by omega) path (parsed l).1 0 2000000 (At.start path) (Wf.names (fun c => let_name) h3) (by rw [← h2]; omega) (by omega)
    rw [← h2] at e
    have e2 : spec_tmAt.f 2000000 (B l) (B path) = some (subRes ((parsed l).1.sub path)) := e
    rw [if_pos rfl, e2]; rfl

set_option maxHeartbeats 1000000 in
theorem law_walk (s t : ByteArray) (w : World) (hs : s.size ≤ 140737488351232) (ht : t.size ≤ 140737488351232) :
    Calls Try.prog 7 #[.string s, .string t] w fun e w' => e = .returned (.bool true) ∧ Below w.heap.size w w' := by
  obtain ⟨l, rfl⟩ := B_of s
  obtain ⟨path, rfl⟩ := B_of t
  have hz : (B l).size = l.length := B_size l
  have hz2 : (B path).size = path.length := B_size path
  rw [hz] at hs
  rw [hz2] at ht
  by_cases hbig : l.length > 1048576
  · go_enter Try.func7, Try.ntmps7
    go_wp2_with fail
    go_ret
    exact ⟨rfl, Below.refl _ _⟩
  by_cases hbig2 : path.length > 1048576
  · go_enter Try.func7, Try.ntmps7
    go_wp2_with fail
    go_ret
    exact ⟨rfl, Below.refl _ _⟩
  · have HF := Lib.hid (spec_val l path (by omega))
    go_enter Try.func7, Try.ntmps7
    go_wp2_with fail
    refine (spec_SubtermAt.calls 2000000 (B l) (B path) _ _ _ HF.out).mono ?_
    rintro e w1 ⟨rfl, hb1⟩
    go_wp2_with fail
    refine (SubtermAt_calls l path _ hs ht).mono ?_
    rintro e w2 ⟨rfl, hb⟩
    replace hb := below_then hb1 hb1.size hb
    clear hb1
    go_wp2_with fail
    go_ret
    exact ⟨rfl, hb⟩

end Go.Proofs.Ytjinjanjjecmiaa.PFnExactSubtermAt
