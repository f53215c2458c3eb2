/- The law FnExactCanBeSorted, walked: the program's answer is the reference's. -/
import Derived.Test.YtonfbnbfbdcmhaaRSorts
import Derived.Test.YtonfbnbfbdcmhaaSortA
import Derived.Test.YtonfbnbfbdcmhaaReads
namespace Go.Proofs.Ytonfbnbfbdcmhaa.PFnExactCanBeSorted
open Go.RowKit Go.Proofs.YtonfbnbfbdcmhaaW.PrintWords Go.Proofs.YtonfbnbfbdcmhaaW.PrintLast Go.Proofs.YtonfbnbfbdcmhaaW.PrintMore Go.Proofs.Ytonfbnbfbdcmhaa.Pterm Go.Proofs.Ytonfbnbfbdcmhaa.PsoPlace
set_option linter.unusedVariables false
set_option linter.unusedSimpArgs false

def val (l : List UInt8) : Bool × Bool := if readOk l = true then ((Srt.of (parsed l).1).canBe, true) else (false, false)
set_option maxHeartbeats 2000000 in
theorem CanBeSorted_calls (l : List UInt8) (w : World) (hl : l.length ≤ 140737488351232) :
    Calls Try.prog 24 #[.string (B l)] w fun e w' => e = .returned (.tuple #[.bool (val l).1, .bool (val l).2]) ∧ Below w.heap.size w w' := by
  go_enter Try.func24, Try.ntmps24
  go_wp2_with fail
  refine (read_calls l w hl).mono ?_
  rintro e w1 ⟨hb, p, rfl, hpp⟩
  rcases hok : readOk l with _ | _
  · have hv : Hid (val l = (false, false)) := by simp [Hid, val, hok]
    clear hok hpp
    go_wp2_with fail
    go_ret2
    exact ⟨by rw [hv.out]; rfl, hb⟩
  have hv : Hid (val l = ((Srt.of (parsed l).1).canBe, true)) := by simp [Hid, val, hok]
  obtain ⟨b, rfl, hli⟩ := hpp hok
  obtain ⟨g1, g2, g3, g4⟩ := read_good hok
  have hso := sortsOf_calls (parsed l).1 w1 w.heap.size b g3 hli (by omega)
  have HO := Lib.hid (Srt.of_ok g3)
  have HB := Lib.hid hb
  clear hok hpp hb hli g1 g2 g3
  go_wp2_with fail
  refine hso.mono ?_
  rintro e w2 ⟨g, m, N, v1, v2, rfl, hs, hm, hb2, hg⟩
  have hcb := canBe_calls hs HO.out.1 (by have := HO.out.2; omega)
  have HB2 := Lib.hid (below_then HB.out HB.out.size hb2)
  clear hso hs hm hb2 hg
  go_wp2_with fail
  refine hcb.mono ?_
  rintro e w3 ⟨rfl, k, rfl⟩
  clear hcb
  go_wp2_with fail
  go_ret2
  exact ⟨by rw [hv.out]; rfl, pw_below_drewN HB2.out _⟩
set_option maxHeartbeats 2000000 in
theorem spec_calls (l : List UInt8) (w : World) :
    Calls Try.prog 23 #[.string (B l)] w fun e w' => e = .returned (.tuple #[.bool (val l).1, .bool (val l).2]) ∧ Below w.heap.size w w' := by
  have hgd := good_f l 3000 (by omega)
  rcases hok : readOk l with _ | _
  · have hv : Hid (val l = (false, false)) := by simp [Hid, val, hok]
    rw [hok] at hgd
    clear hok
    go_enter Try.func23, Try.ntmps23
    go_wp2_with fail
    refine (spec_tmGood.calls 3000 (B l) _ _ hgd).mono ?_
    rintro e w1 ⟨rfl, hb⟩
    clear hgd
    go_wp2_with fail
    go_ret2
    exact ⟨by rw [hv.out]; rfl, hb⟩
  · have hv : Hid (val l = ((Srt.of (parsed l).1).canBe, true)) := by simp [Hid, val, hok]
    rw [hok] at hgd
    obtain ⟨g1, g2, g3, g4⟩ := read_good hok
    have HS : Hid (∀ W, Calls Try.prog 43 #[.string (B l)] W fun e w' => ∃ g N v1 v2, e = .returned (.pointer (some ⟨g, 0, none⟩)) ∧ SrAt w' N g v1 v2 [] (Srt.of (parsed l).1) ∧ Below W.heap.size W w' ∧ W.heap.size ≤ g ∧ N ≤ w'.heap.size) := fun W => by
      have := Rf.rsof_calls (parsed l).1 W g3 (by omega) (by rw [← g2]; omega)
      rw [← g2] at this
      exact this
    have HO := Lib.hid (Srt.of_ok g3)
    clear hok g1 g2 g3
    go_enter Try.func23, Try.ntmps23
    go_wp2_with fail
    refine (spec_tmGood.calls 3000 (B l) _ _ hgd).mono ?_
    rintro e w1 ⟨rfl, hb⟩
    clear hgd
    have HB := Lib.hid hb
    clear hb
    go_wp2_with fail
    refine (HS.out _).mono ?_
    rintro e w2 ⟨g, N, v1, v2, rfl, hs, hb2, hg, hN⟩
    have hcb := Rf.able_calls hs HO.out.1 (by have := HO.out.2; omega)
    rw [← HO.out.1.can_able] at hcb
    have HB2 := Lib.hid (below_then HB.out HB.out.size hb2)
    clear hs hb2 hg hN
    go_wp2_with fail
    refine hcb.mono ?_
    rintro e w3 ⟨rfl, rfl⟩
    clear hcb
    go_wp2_with fail
    go_ret2
    exact ⟨by rw [hv.out]; rfl, HB2.out⟩

set_option maxHeartbeats 1000000 in
theorem law_walk (s : ByteArray) (w : World) (hs : s.size ≤ 140737488351232) :
    Calls Try.prog 7 #[.string s] w fun e w' => e = .returned (.bool true) ∧ Below w.heap.size w w' := by
  obtain ⟨l, rfl⟩ := B_of s
  have hz : (B l).size = l.length := B_size l
  rw [hz] at hs
  by_cases hbig : l.length > 1048576
  · go_enter Try.func7, Try.ntmps7
    go_wp2_with fail
    go_ret
    exact ⟨rfl, Below.refl _ _⟩
  · have HF := spec_calls l
    have HI := CanBeSorted_calls l
    go_enter Try.func7, Try.ntmps7
    go_wp2_with fail
    refine (HF _).mono ?_
    rintro e w1 ⟨rfl, hb1⟩
    go_wp2_with fail
    refine (HI _ hs).mono ?_
    rintro e w2 ⟨rfl, hb⟩
    replace hb := below_then hb1 hb1.size hb
    clear hb1
    go_wp2_with fail
    go_ret
    exact ⟨rfl, hb⟩

end Go.Proofs.Ytonfbnbfbdcmhaa.PFnExactCanBeSorted
