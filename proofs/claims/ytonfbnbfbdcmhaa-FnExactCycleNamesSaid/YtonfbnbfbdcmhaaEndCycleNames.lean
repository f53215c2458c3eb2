/- The law FnExactCycleNames, walked: the program's answer is the reference's. (Written by gen_endcyc.py.) -/
import Derived.Test.YtonfbnbfbdcmhaaSortC
import Derived.Test.YtonfbnbfbdcmhaaNamedCycleNames
namespace Go.Proofs.Ytonfbnbfbdcmhaa.PFnExactCycleNames
open Go.RowKit Go.Proofs.YtonfbnbfbdcmhaaW.PrintWords Go.Proofs.YtonfbnbfbdcmhaaW.PrintLast Go.Proofs.YtonfbnbfbdcmhaaW.PrintMore Go.Proofs.Ytonfbnbfbdcmhaa.Pterm Go.Proofs.Ytonfbnbfbdcmhaa.PsoPlace Go.Proofs.Ytonfbnbfbdcmhaa.Rf
set_option linter.unusedVariables false
set_option linter.unusedSimpArgs false

def hold (t : Tm) (c : UInt8) : Bool := (Srt.of t).toRound (Srt.place (sortL t.fr) c)
theorem meas {n j : Nat} (h : j < n) (hw : wrap64 ((j : Int) + 1) = (j : Int) + 1) : n - (intOf (.int .i64 (wrap64 ((j : Int) + 1)))).toNat < n - (intOf (.int .i64 (j : Int))).toNat := by
  rw [hw]; simp only [intOf]; omega
def val (l : List UInt8) : List UInt8 × Bool := if readOk l = true then ((sortL (parsed l).1.fr).filter (hold (parsed l).1), true) else ([], false)
set_option maxHeartbeats 4000000 in
theorem cyc_prog (l : List UInt8) (w : World) (hl : l.length ≤ 140737488351232) :
    Calls Try.prog 26 #[.string (B l)] w fun e w' => e = .returned (.tuple #[.string (B (val l).1), .bool (val l).2]) ∧ Below w.heap.size w w' := by
  go_enter Try.func26, Try.ntmps26
  go_wp2_with fail
  refine (read_calls l w hl).mono ?_
  rintro e w1 ⟨hb, p, rfl, hpp⟩
  rcases hok : readOk l with _ | _
  · have hv : Hid (val l = ([], false)) := by simp [Hid, val, hok]
    clear hok hpp
    go_wp2_with fail
    go_ret2
    exact ⟨by rw [hv.out]; rfl, hb⟩
  obtain ⟨b, rfl, hli⟩ := hpp hok
  have hso := sortsOf_read hok hb hli
  have hv : Hid (val l = (sortL (fun c => decide (c ∈ sortL (parsed l).1.fr) && (Srt.of (parsed l).1).toRound (Srt.place (sortL (parsed l).1.fr) c)), true)) := by
    rw [Hid, sort_filter]; simp only [val, hok, if_true]; rfl
  have HO := Lib.hid (Srt.of_ok (read_good hok).2.2.1)
  have hn : (Srt.of (parsed l).1).n ≤ 1000000 := by have := HO.out.2; have := (read_good hok).2.2.2; omega
  generalize sortL (parsed l).1.fr = L at HO hso hv
  generalize Srt.of (parsed l).1 = s at HO hso hv hn
  clear hok hpp hli hb
  go_wp2_with fail
  refine hso.mono ?_
  rintro e w3 ⟨g, m, N, v1, v2, rfl, T⟩
  clear hso
  obtain ⟨w4, hw4⟩ : ∃ w4, w4 = w3.alloc (.cells #[.pointer (some ⟨g, 0, none⟩)] 52) := ⟨_, rfl⟩
  have hx : w4.heap[w3.heap.size]? = some (.cells #[.pointer (some ⟨g, 0, none⟩)] 52 (0, 0)) := by rw [hw4]; exact heap_alloc_new w3 _
  have T4 : SF w w4 g m N v1 v2 s L := by rw [hw4]; exact T.later ((Below.refl w3.heap.size w3).alloc (Nat.le_refl _) _)
  have c4 : w4.cell? ⟨w3.heap.size, 0, none⟩ = some (.pointer (some ⟨g, 0, none⟩)) := blk_cell hx 0
  have hnm := namedCycleNames_calls (fun x => s.toRound x) (.pointer (some ⟨w3.heap.size, 0, none⟩)) T4.sr T4.mp (fun c hc j =>
    (toRound_calls (T4.sr.drewN j) HO.out.1 (by have := Srt.place_lt hc; have := HO.out.2; omega) hn c4).mono fun e w' ⟨h1, k, h2⟩ => ⟨h1, j + k, by rw [h2, drewN_comp]⟩)
  have HT4 := Lib.hid T4
  have HW4 := Lib.hid hw4
  clear T hx T4 hw4
  go_upto_region 5 with fail
  rw [← HW4.out]
  go_wp2_with fail
  refine hnm.mono ?_
  rintro e w5 ⟨rfl, k5, rfl⟩
  clear hnm
  go_wp2_with fail
  go_ret2
  exact ⟨by rw [hv.out]; rfl, pw_below_drewN HT4.out.below _⟩

set_option maxHeartbeats 4000000 in
theorem cyc_spec (l : List UInt8) (w : World) :
    Calls Try.prog 25 #[.string (B l)] w fun e w' => e = .returned (.tuple #[.string (B (val l).1), .bool (val l).2]) ∧ Below w.heap.size w w' := by
  have hgd := good_f l 3000 (by omega)
  rcases hok : readOk l with _ | _
  · have hv : Hid (val l = ([], false)) := by simp [Hid, val, hok]
    rw [hok] at hgd
    clear hok
    go_enter Try.func25, Try.ntmps25
    go_wp2_with fail
    refine (spec_tmGood.calls 3000 (B l) _ _ hgd).mono ?_
    rintro e w1 ⟨rfl, hb⟩
    clear hgd
    go_wp2_with fail
    go_ret2
    exact ⟨by rw [hv.out]; rfl, hb⟩
  · have HS := Lib.hid (rsof_read hok)
    have HO := Lib.hid (Srt.of_ok (read_good hok).2.2.1)
    have HFR : Hid (spec_tmFree.f 3000 (B l) = some (B (sortL (parsed l).1.fr))) := by
      obtain ⟨g1, g2, g3, g4⟩ := read_good hok
      have := frees_text (parsed l).1 3000 g3 (by rw [← g2]; omega) (by omega)
      rw [← g2] at this; exact this
    have hv : Hid (val l = ((sortL (parsed l).1.fr).filter (hold (parsed l).1), true)) := by simp [Hid, val, hok]
    have HH : Hid (∀ j, (hj : j < (sortL (parsed l).1.fr).length) → hold (parsed l).1 (sortL (parsed l).1.fr)[j] = ((Srt.of (parsed l).1).lvl j).isNone) := fun j hj => by
      unfold hold
      rw [place_at (sort_nodup _) hj]
      exact HO.out.1.to_round (by have := HO.out.2; omega)
    have HLL : Hid ((sortL (parsed l).1.fr).length ≤ 26) := sort_len _
    have hn : (Srt.of (parsed l).1).n ≤ 1000000 := by have := HO.out.2; have := (read_good hok).2.2.2; omega
    rw [hok] at hgd
    generalize hold (parsed l).1 = h at HH hv
    generalize sortL (parsed l).1.fr = L at HO hv HFR HH HLL
    generalize Srt.of (parsed l).1 = s at HO HS hn HH
    clear hok
    have hLz : (B L).size = L.length := B_size L
    go_enter Try.func25, Try.ntmps25
    go_wp2_with fail
    refine (spec_tmGood.calls 3000 (B l) _ _ hgd).mono ?_
    rintro e w1 ⟨rfl, hb⟩
    clear hgd
    have HB := Lib.hid hb
    clear hb
    go_wp2_with fail
    refine (HS.out _).mono ?_
    rintro e w2 ⟨g, N, v1, v2, rfl, hs, hb2, hg, hN⟩
    have HB2 := Lib.hid (below_then HB.out HB.out.size hb2)
    have HSR := Lib.hid hs
    clear hs hb2 hg hN HB
    go_wp2_with fail
    refine (spec_tmFree.calls 3000 (B l) _ _ HFR.out).mono ?_
    rintro e w3 ⟨rfl, hb3⟩
    have HB3 := Lib.hid (below_then HB2.out HB2.out.size hb3)
    have HS3 := Lib.hid (HSR.out.below hb3)
    clear hb3
    go_wp2_with fail
    go_loop [6, 7] (fun o i => ∃ j : Nat, j ≤ L.length ∧ i = .int .i64 j ∧ o = .string (B ((L.take j).filter h))) (fun _ i => L.length - (intOf i).toNat)
    case atStart => exact ⟨0, Nat.zero_le _, rfl, rfl⟩
    case round =>
      obtain ⟨j, hj, rfl, rfl⟩ := hrel
      by_cases hlt : j < L.length
      · have hlt4 : (j : Int) < (L.length : Int) := by omega
        have hlv := Rf.level_calls HS3.out HO.out.1 (x := j) (by have := HO.out.2; omega) hn
        have hex : (B L).extract j (j + 1) = B [L[j]] := by
          rw [B_extract]
          congr 1
          rw [List.take_succ_eq_append_getElem hlt, List.drop_append_of_le_length (by rw [List.length_take]; omega), List.drop_eq_nil_of_le (by rw [List.length_take]; omega), List.nil_append]
        have hwr : wrap64 ((j : Int) + 1) = (j : Int) + 1 := wrap_id (by omega) (by have := HLL.out; omega)
        have hsl : ∀ W : World, (Instr.slice 9 (.string (B L)) (some (.int .i64 j)) (some (.int .i64 ((j : Int) + 1))) none).run Try.prog W = .ok (.string (B [L[j]])) W := by
          intro W
          have := run_slice_string (P := Try.prog) W 9 (B L) .i64 .i64 (j : Int) ((j : Int) + 1) Try.underlying9 (by omega) (by omega) (by rw [hLz]; omega)
          rw [show ((j : Int) + 1).toNat = j + 1 from by omega, Int.toNat_natCast, hex] at this
          exact this
        have hcz : ¬ (9223372036854775807 < (B ((L.take j).filter h)).size + (B [L[j]]).size) := by rw [B_size, B_size]; have := List.length_filter_le h (L.take j); rw [List.length_take] at this; have := HLL.out; simp; omega
        have hcat : B ((L.take j).filter h) ++ B [L[j]] = B ((L.take j).filter h ++ [L[j]]) := B_append _ _
        have HFT := Lib.hid (filter_take L h hlt)
        have HHJ := Lib.hid (HH.out j hlt)
        rcases hq : s.lvl j with _ | k
        · have HN : Hid ((L.take (j + 1)).filter h = (L.take j).filter h ++ [L[j]]) := by rw [Hid, HFT.out, HHJ.out, hq]; rfl
          rw [hq] at hlv
          simp only [lvlV] at hlv
          clear hq HFT HHJ
          go_wp2_with fail
          refine hlv.mono ?_
          rintro e w4 ⟨rfl, rfl⟩
          clear hlv
          go_wp2_with fail
          go_round
          case rel => exact ⟨j + 1, by omega, by go_num, by rw [HN.out]⟩
          case measure => exact meas hlt hwr
        · have HN : Hid ((L.take (j + 1)).filter h = (L.take j).filter h) := by rw [Hid, HFT.out, HHJ.out, hq]; simp
          rw [hq] at hlv
          simp only [lvlV] at hlv
          clear hq HFT HHJ
          go_wp2_with fail
          refine hlv.mono ?_
          rintro e w4 ⟨rfl, rfl⟩
          clear hlv
          go_wp2_with fail
          go_round
          case rel => exact ⟨j + 1, by omega, by go_num, by rw [HN.out]⟩
          case measure => exact meas hlt hwr
      · have hjl : j = L.length := by omega
        subst hjl
        rw [List.take_length]
        go_wp2_with fail
        go_ret2
        exact ⟨by rw [hv.out]; rfl, HB3.out⟩

set_option maxHeartbeats 1000000 in
theorem law_walk (s : ByteArray) (w : World) (hs : s.size ≤ 140737488351232) :
    Calls Try.prog 8 #[.string s] w fun e w' => e = .returned (.bool true) ∧ Below w.heap.size w w' := by
  obtain ⟨l, rfl⟩ := B_of s
  have hzl : (B l).size = l.length := B_size l
  rw [hzl] at hs
  by_cases hbigl : l.length > 1048576
  · go_enter Try.func8, Try.ntmps8
    go_wp2_with fail
    go_ret
    exact ⟨rfl, Below.refl _ _⟩
  · have HF := cyc_spec l
    have HI := cyc_prog l
    go_enter Try.func8, Try.ntmps8
    go_wp2_with fail
    refine (HF _).mono ?_
    rintro e w1 ⟨rfl, hb1⟩
    go_wp2_with fail
    refine (HI _ hs).mono ?_
    rintro e w2 ⟨rfl, hb⟩
    replace hb := below_then hb1 hb1.size hb
    clear hb1
    go_wp2_with fail
    go_ret
    exact ⟨rfl, hb⟩
end Go.Proofs.Ytonfbnbfbdcmhaa.PFnExactCycleNames
