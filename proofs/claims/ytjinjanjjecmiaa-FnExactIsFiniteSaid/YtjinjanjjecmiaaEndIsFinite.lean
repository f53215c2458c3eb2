/- The law FnExactIsFinite, walked: the program's answer is the reference's. -/
import Derived.Test.YtjinjanjjecmiaaGoodIsFinite
import Derived.Test.YtjinjanjjecmiaaCountIsFinite
import Derived.Test.YtjinjanjjecmiaaReadb
import Derived.Test.YtjinjanjjecmiaaFin
namespace Go.Proofs.Ytjinjanjjecmiaa.PFnExactIsFinite
open Go.RowKit Go.Proofs.YtjinjanjjecmiaaW.PrintWords Go.Proofs.YtjinjanjjecmiaaW.PrintLast Go.Proofs.YtjinjanjjecmiaaW.PrintMore Go.Proofs.Ytjinjanjjecmiaa.Pterm Go.Proofs.Ytjinjanjjecmiaa.PIsFinite
set_option linter.unusedVariables false
set_option linter.unusedSimpArgs false

/-- What both say. -/
def val (l : List UInt8) : Bool := readOk l && (pre (parsed l).1).all finP

set_option maxHeartbeats 1000000 in
theorem IsFinite_calls (l : List UInt8) (w : World) (hl : l.length ≤ 140737488351232) :
    Calls Try.prog 18 #[.string (B l)] w fun e w' => e = .returned (.tuple #[.bool (val l), .bool (readOk l)]) ∧ Below w.heap.size w w' := by
  go_enter Try.func18, Try.ntmps18
  go_wp2_with fail
  refine (read_calls l w hl).mono ?_
  rintro e w1 ⟨hb, p, rfl, hp⟩
  rcases hok : readOk l with _ | _
  · have hv : Hid (val l = false) := by simp [Hid, val, hok]
    have HO := Lib.hid hok
    clear hok hp
    go_wp2_with fail
    go_ret2
    exact ⟨by rw [hv.out, HO.out]; rfl, hb⟩
  · have hv : Hid (val l = (pre (parsed l).1).all finP) := by simp [Hid, val, hok]
    obtain ⟨b, rfl, hli⟩ := hp hok
    have hsz := (read_good hok).2.2.2
    have HO := Lib.hid hok
    have HG := Lib.hid (read_good hok)
    clear hok hp
    go_wp2_with fail
    refine (finite_calls _ _ _ _ (by omega) hli).mono ?_
    rintro e w2 ⟨rfl, hb2⟩
    replace hb := below_then hb hb.size hb2
    clear hli hb2
    go_wp2_with fail
    go_ret2
    exact ⟨by rw [hv.out, HO.out]; rfl, hb⟩

theorem fin_cnt (t : Tm) : ((cnt 42 t : Int) == 0) = (pre t).all finP := by
  rw [Bool.eq_iff_iff, beq_iff_eq, List.all_eq_true, show ((cnt 42 t : Int) = 0 ↔ cnt 42 t = 0) from by omega, cnt_pre, List.countP_eq_zero]
  have h : ∀ u : Tm, (¬ (u.kind == 42) = true) ↔ finP u = true := fun u => by
    rw [beq_iff_eq]
    unfold finP
    rw [bne_iff_ne, ne_eq, show (42 : Int) = vl 42 from rfl, vl_inj]
  constructor
  · intro k u hu; exact (h u).mp (k u hu)
  · intro k u hu; exact (h u).mpr (k u hu)

theorem spec_val (l : List UInt8) : spec_IsFinite.f 3000 (B l) = some (val l, readOk l) := by
  unfold spec_IsFinite.f val
  rw [good_f l 3000 (by omega), Option.bind_some]
  rcases hok : readOk l with _ | _
  · rfl
  · obtain ⟨h1, h2, h3, h4⟩ := read_good hok
    have e := count_text 42 (parsed l).1 3000 (Wf.names (fun c => let_name) h3) (by rw [← h2]; omega) (by omega)
    rw [← h2] at e
    have e2 : spec_tmCount.f 3000 (B l) 42 = some (cnt 42 (parsed l).1 : Int) := e
    rw [if_pos rfl, e2, Option.bind_some, fin_cnt]; rfl

set_option maxHeartbeats 1000000 in
theorem law_walk (s : ByteArray) (w : World) (hs : s.size ≤ 140737488351232) :
    Calls Try.prog 4 #[.string s] w fun e w' => e = .returned (.bool true) ∧ Below w.heap.size w w' := by
  obtain ⟨l, rfl⟩ := B_of s
  have hz : (B l).size = l.length := B_size l
  rw [hz] at hs
  by_cases hbig : l.length > 1048576
  · go_enter Try.func4, Try.ntmps4
    go_wp2_with fail
    go_ret
    exact ⟨rfl, Below.refl _ _⟩
  · have HF := Lib.hid (spec_val l)
    go_enter Try.func4, Try.ntmps4
    go_wp2_with fail
    refine (spec_IsFinite.calls 3000 (B l) _ _ _ HF.out).mono ?_
    rintro e w1 ⟨rfl, hb1⟩
    go_wp2_with fail
    refine (IsFinite_calls l _ hs).mono ?_
    rintro e w2 ⟨rfl, hb⟩
    replace hb := below_then hb1 hb1.size hb
    clear hb1
    go_wp2_with fail
    go_ret
    exact ⟨rfl, hb⟩

end Go.Proofs.Ytjinjanjjecmiaa.PFnExactIsFinite
