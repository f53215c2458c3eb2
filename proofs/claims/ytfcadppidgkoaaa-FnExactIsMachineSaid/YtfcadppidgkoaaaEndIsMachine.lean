/- The law FnExactIsMachine, walked: the program's answer is the reference's. -/
import Derived.Test.YtfcadppidgkoaaaMachSFnExactIsMachine
namespace Go.Proofs.Ytfcadppidgkoaaa.PFnExactIsMachine
open Go.RowKit Go.Proofs.YtfcadppidgkoaaaW.PrintWords Go.Proofs.YtfcadppidgkoaaaW.PrintLast Go.Proofs.YtfcadppidgkoaaaW.PrintMore Go.Proofs.Ytfcadppidgkoaaa.PFnExactIsMachine
set_option linter.unusedVariables false
set_option linter.unusedSimpArgs false

theorem spec_calls (own : List UInt8) (ready waiting : List (List UInt8)) (oR oW : Option Addr) (cR cW : Nat) (w : World) (hR : Strs w oR ready) (hW : Strs w oW waiting) (lo : own.length ≤ 1100000) (lr : ready.length ≤ 1100000) (lw : waiting.length ≤ 1100000) (hcw : waiting.length ≤ cW)
    (sr : ∀ l, l ∈ ready → l.length ≤ 1100000) (sw : ∀ l, l ∈ waiting → l.length ≤ 1100000) :
    Calls Try.prog 37 #[.agg #[.string (B own), .slice oR ready.length cR, .slice oW waiting.length cW]] w fun e w' => e = .returned (.bool (machB own ready waiting)) ∧ Below w.heap.size w w' := by
  have HC := Lib.hid (fun W (hW1 : Below w.heap.size w W) => maGood_calls own ready waiting oR oW cR cW W (hR.below hW1) (hW.below hW1) lo lr lw hcw)
  clear hR hW sr sw
  go_enter Try.func37, Try.ntmps37
  go_wp2_with fail
  refine (HC.out _ (below_alloc (Below.refl _ _) _)).mono ?_
  rintro e w2 ⟨rfl, hb2⟩
  go_wp2_with fail
  go_ret
  exact ⟨rfl, below_then (below_alloc (Below.refl _ _) _) (below_alloc (Below.refl _ _) _).size hb2⟩

set_option maxHeartbeats 2000000 in
set_option maxRecDepth 100000 in
theorem law_walk (own : ByteArray) (A1 : Option Addr) (c1 : Nat) (l1 : List ByteArray) (A2 : Option Addr) (c2 : Nat) (l2 : List ByteArray) (w : World) (ho : own.size ≤ 9223372036854775807)
    (a1 : l1.length ≤ c1) (a2 : l1.length ≤ 9223372036854775807) (a3 : Kd.C Kd.string w A1 l1.length l1) (a4 : ∀ s, s ∈ l1 → s.size ≤ 9223372036854775807)
    (b1 : l2.length ≤ c2) (b2 : l2.length ≤ 9223372036854775807) (b3 : Kd.C Kd.string w A2 l2.length l2) (b4 : ∀ s, s ∈ l2 → s.size ≤ 9223372036854775807) :
    Calls Try.prog 12 #[.agg #[.string own, .slice A1 l1.length c1, .slice A2 l2.length c2]] w fun e w' => e = .returned (.bool true) ∧ Below w.heap.size w w' := by
  obtain ⟨z, hz, hzc⟩ := szM_f own l1 l2 ho a2 b2 a4 b4
  have HSZ := Lib.hid hz
  have hba : Below w.heap.size w (w.alloc (.cells #[.string own, .slice A1 l1.length c1, .slice A2 l2.length c2] 42)) := below_alloc (Below.refl _ _) _
  have hblk := heap_alloc_new w (.cells #[.string own, .slice A1 l1.length c1, .slice A2 l2.length c2] 42)
  obtain ⟨wa, hwa⟩ : ∃ wa, w.alloc (.cells #[.string own, .slice A1 l1.length c1, .slice A2 l2.length c2] 42) = wa := ⟨_, rfl⟩
  rw [hwa] at hba hblk
  have HBX : Hid (∀ W, Below wa.heap.size wa W → W.cell? ⟨w.heap.size, 0, none⟩ = some (.string own) ∧ W.cell? ⟨w.heap.size, 1, none⟩ = some (.slice A1 l1.length c1) ∧ W.cell? ⟨w.heap.size, 2, none⟩ = some (.slice A2 l2.length c2) ∧ w.heap.size < W.heap.size) := fun W hW => by
    have h := blk_below hblk hW
    exact ⟨blk_cell h 0, blk_cell h 1, blk_cell h 2, blk_lt h⟩
  obtain ⟨x0, x1, x2, hlt⟩ := HBX.out wa (Below.refl _ _)
  have HBA := Lib.hid hba
  have e3 := Kd.C_below a3 hba
  have f3 := Kd.C_below b3 hba
  clear ho a2 b2 a4 b4 hz hblk a3 b3 hba
  go_enter Try.func12, Try.ntmps12
  go_wp2_with fail
  refine (laws_szMachine.calls 1048577 own A1 c1 l1 A2 c2 l2 1048576 z wa e3 a1 f3 b1 HSZ.out).mono ?_
  rintro e w1 ⟨rfl, hb1⟩
  clear x0 x1 x2 hlt hwa
  rcases hzc with rfl | ⟨y, rfl, ho, r1, r2, r3, r4⟩
  · go_wp2_with fail
    go_ret
    exact ⟨rfl, below_then HBA.out HBA.out.size hb1⟩
  have HTM := Lib.hid (toM_f own l1 l2 r1 r2)
  have HEQ := Lib.hid (eqM_f own l1 l2 r1 r2)
  obtain ⟨o, rfl⟩ := B_of own
  obtain ⟨xs, hxs⟩ := lists_of l1
  obtain ⟨ys, hys⟩ := lists_of l2
  rw [B_size] at ho
  have hxl : xs.length ≤ 1048576 := by rw [hxs] at r1; simpa using r1
  have hyl : ys.length ≤ 1048576 := by rw [hys] at r2; simpa using r2
  have HX : Hid (∀ l, l ∈ xs → l.length ≤ 1100000) := fun l hl => by have := r3 (B l) (by rw [hxs]; exact List.mem_map_of_mem hl); rw [B_size] at this; omega
  have HY : Hid (∀ l, l ∈ ys → l.length ≤ 1100000) := fun l hl => by have := r4 (B l) (by rw [hys]; exact List.mem_map_of_mem hl); rw [B_size] at this; omega
  have HXS : Hid (l1 = xs.map B ∧ l1.length = xs.length) := ⟨hxs, by rw [hxs, List.length_map]⟩
  have HYS : Hid (l2 = ys.map B ∧ l2.length = ys.length) := ⟨hys, by rw [hys, List.length_map]⟩
  have HE3 := Lib.hid (Kd.C_below e3 hb1)
  have HF3 := Lib.hid (Kd.C_below f3 hb1)
  have HB1 := Lib.hid hb1
  obtain ⟨x0, x1, x2, hlt⟩ := HBX.out w1 hb1
  clear r1 r2 r3 r4 e3 f3 hb1 HSZ hxs hys
  have hyn : ¬ ((y : Nat) : Int) < 0 := by omega
  go_wp2_with fail
  refine (laws_toMachine.calls 1048577 (B o) A1 c1 l1 A2 c2 l2 _ _ _ w1 HE3.out a1 HF3.out b1 HTM.out).mono ?_
  rintro e w2 ⟨v1, v2, rfl, hr1, hr2, hb2⟩
  obtain ⟨o1, k1, rfl, g1, s1, m1⟩ := strs_len HXS.out hr1
  obtain ⟨o2, k2, rfl, g2, s2, m2⟩ := strs_len HYS.out hr2
  have HS : Hid (Calls Try.prog 37 #[.agg #[.string (B o), .slice o1 l1.length k1, .slice o2 l2.length k2]] w2 fun e w' => e = .returned (.bool (machB o xs ys)) ∧ Below w2.heap.size w2 w') := by
    rw [Hid, HXS.out.2, HYS.out.2]; exact spec_calls o xs ys o1 o2 k1 k2 w2 s1 s2 (by omega) (by omega) (by omega) (by rw [← HYS.out.2]; exact g2) HX.out HY.out
  have HB2 := Lib.hid (below_then HB1.out HB1.out.size hb2)
  have HB12 := Lib.hid hb2
  clear hr1 hr2 hb2 g1 g2 s1 s2 m1 m2 x0 x1 x2 hlt HB1
  obtain ⟨x0, x1, x2, hlt⟩ := HBX.out w2 HB2.out
  go_wp2_with fail
  refine HS.out.mono ?_
  rintro e w3 ⟨rfl, hb3⟩
  have HB3 := Lib.hid (below_then HB2.out HB2.out.size hb3)
  have HB13 := Lib.hid (below_then HB12.out HB12.out.size hb3)
  clear hb3 x0 x1 x2 hlt HB2 HS
  obtain ⟨x0, x1, x2, hlt⟩ := HBX.out w3 HB3.out
  go_wp2_with fail
  refine (laws_toMachine.calls 1048577 (B o) A1 c1 l1 A2 c2 l2 _ _ _ w3 (Kd.C_below HE3.out HB13.out) a1 (Kd.C_below HF3.out HB13.out) b1 HTM.out).mono ?_
  rintro e w4 ⟨v3, v4, rfl, hr3, hr4, hb4⟩
  obtain ⟨o3, k3, rfl, g3, s3, m3⟩ := strs_len HXS.out hr3
  obtain ⟨o4, k4, rfl, g4, s4, m4⟩ := strs_len HYS.out hr4
  have HB4 := Lib.hid (below_then HB3.out HB3.out.size hb4)
  have HB14 := Lib.hid (below_then HB13.out HB13.out.size hb4)
  clear hr3 hr4 hb4 x0 x1 x2 hlt HB12
  obtain ⟨x0, x1, x2, hlt⟩ := HBX.out w4 HB4.out
  have hb5 : Below w4.heap.size w4 (w4.alloc (.cells #[.string (B o), .slice o3 l1.length k3, .slice o4 l2.length k4] 27)) := below_alloc (Below.refl _ _) _
  have hblk5 := heap_alloc_new w4 (.cells #[.string (B o), .slice o3 l1.length k3, .slice o4 l2.length k4] 27)
  go_wp2_with fail
  obtain ⟨w5, hw5⟩ : ∃ w5, w4.alloc (.cells #[.string (B o), .slice o3 l1.length k3, .slice o4 l2.length k4] 27) = w5 := ⟨_, rfl⟩
  rw [hw5] at hb5 hblk5 ⊢
  have HX0 : Hid (∀ W, Below w5.heap.size w5 W → W.cell? ⟨w4.heap.size, 0, none⟩ = some (.string (B o)) ∧ W.cell? ⟨w4.heap.size, 1, none⟩ = some (.slice o3 l1.length k3) ∧ W.cell? ⟨w4.heap.size, 2, none⟩ = some (.slice o4 l2.length k4) ∧ w4.heap.size < W.heap.size) := fun W hW => by
    have h := blk_below hblk5 hW
    exact ⟨blk_cell h 0, blk_cell h 1, blk_cell h 2, blk_lt h⟩
  have HI : Hid (Calls Try.prog 39 #[.agg #[.string (B o), .slice o3 l1.length k3, .slice o4 l2.length k4]] w5 fun e w' => e = .returned (.bool (machB o xs ys)) ∧ Below w5.heap.size w5 w') := by
    rw [Hid, HXS.out.2, HYS.out.2]; exact IsMachine_calls o xs ys o3 o4 k3 k4 w5 (s3.below hb5) (s4.below hb5) (by omega) (by omega) (by omega) HX.out HY.out
  have HB5 := Lib.hid (below_then HB4.out HB4.out.size hb5)
  have HM3 := Lib.hid (Kd.C_below m3 hb5)
  have HM4 := Lib.hid (Kd.C_below m4 hb5)
  have HB15 := Lib.hid (below_then HB14.out HB14.out.size hb5)
  clear hblk5 hw5 hb5 m3 m4 s3 s4 x0 x1 x2 hlt HB4
  refine HI.out.mono ?_
  rintro e w6 ⟨rfl, hb6⟩
  have hbw6 := below_then HB5.out HB5.out.size hb6
  have HB6 := Lib.hid hbw6
  have HB16 := Lib.hid (below_then HB15.out HB15.out.size hb6)
  have HB56 := Lib.hid hb6
  obtain ⟨x0, x1, x2, hlt⟩ := HBX.out w6 hbw6
  obtain ⟨y0, y1, y2, hlt2⟩ := HX0.out w6 hb6
  have r3 := Kd.C_below HM3.out hb6
  have r4 := Kd.C_below HM4.out hb6
  have q3 := Kd.C_below HE3.out HB16.out
  have q4 := Kd.C_below HF3.out HB16.out
  clear hb6 hbw6 HI HB5
  go_wp2_with fail
  go_region_held3 (fun w' => w'.cell? ⟨w.heap.size, 0, none⟩ = some (.string (B o)) ∧ w'.cell? ⟨w.heap.size, 1, none⟩ = some (.slice A1 l1.length c1) ∧ w'.cell? ⟨w.heap.size, 2, none⟩ = some (.slice A2 l2.length c2) ∧ w'.cell? ⟨w4.heap.size, 0, none⟩ = some (.string (B o)) ∧ w'.cell? ⟨w4.heap.size, 1, none⟩ = some (.slice o3 l1.length k3) ∧ w'.cell? ⟨w4.heap.size, 2, none⟩ = some (.slice o4 l2.length k4))
    (first | exact ⟨x0, x1, x2, y0, y1, y2⟩
           | exact ⟨(hb8.cell (Nat.lt_of_lt_of_le hlt hb7.size)).trans ((hb7.cell hlt).trans x0), (hb8.cell (Nat.lt_of_lt_of_le hlt hb7.size)).trans ((hb7.cell hlt).trans x1), (hb8.cell (Nat.lt_of_lt_of_le hlt hb7.size)).trans ((hb7.cell hlt).trans x2), (hb8.cell (Nat.lt_of_lt_of_le hlt2 hb7.size)).trans ((hb7.cell hlt2).trans y0), (hb8.cell (Nat.lt_of_lt_of_le hlt2 hb7.size)).trans ((hb7.cell hlt2).trans y1), (hb8.cell (Nat.lt_of_lt_of_le hlt2 hb7.size)).trans ((hb7.cell hlt2).trans y2)⟩
           | exact ⟨(hb7.cell hlt).trans x0, (hb7.cell hlt).trans x1, (hb7.cell hlt).trans x2, (hb7.cell hlt2).trans y0, (hb7.cell hlt2).trans y1, (hb7.cell hlt2).trans y2⟩ | go_keep)
    (first | (go_at_call 38; refine (laws_toMachine.calls 1048577 (B o) A1 c1 l1 A2 c2 l2 _ _ _ _ (Kd.C_below q3 (pw_below_drewN (Below.refl _ _) 1)) a1 (Kd.C_below q4 (pw_below_drewN (Below.refl _ _) 1)) b1 HTM.out).mono ?_; rintro e w7 ⟨v5, v6, rfl, hr5, hr6, hb70⟩; obtain ⟨o5, k5, rfl, g5, _, m5⟩ := strs_len HXS.out hr5; obtain ⟨o6, k6, rfl, g6, _, m6⟩ := strs_len HYS.out hr6; have hb7 : Below w6.heap.size w6 w7 := ⟨hb70.os, hb70.tape, hb70.output, hb70.size, hb70.block⟩)
           | (go_at_call 19; refine (laws_eqMachine.calls 1048577 (B o) o3 k3 l1 o4 k4 l2 (B o) o5 k5 l1 o6 k6 l2 true w7 (Kd.C_below r3 hb7) g3 (Kd.C_below r4 hb7) g4 m5 g5 m6 g6 HEQ.out).mono ?_; rintro e w8 ⟨rfl, hb8⟩))
  go_wp2_with fail
  go_ret
  exact ⟨rfl, below_then (below_then HBA.out HBA.out.size HB6.out) (Nat.le_trans HBA.out.size HB6.out.size) (below_then hb7 hb7.size hb8)⟩

end Go.Proofs.Ytfcadppidgkoaaa.PFnExactIsMachine
