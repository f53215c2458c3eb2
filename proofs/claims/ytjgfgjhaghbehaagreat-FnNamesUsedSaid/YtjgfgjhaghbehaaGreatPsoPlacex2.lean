-- PRINTED BY print.sh 35421559b90ae4d0a3588c463048766b98c2df88dd9212a6774a882060cdf62d: not written by this session
import Derived.Test.YtjgfgjhaghbehaaGreatPsoPlacex1
namespace Go.Proofs.YtjgfgjhaghbehaaGreat.PsoPlace
open Go.RowKit Go.Proofs.YtjgfgjhaghbehaaGreatW.PrintWords Go.Proofs.YtjgfgjhaghbehaaGreatW.PrintLast Go.Proofs.YtjgfgjhaghbehaaGreatW.PrintMore
attribute [local go_sem] max2_int min2_int max_two min_two max_three min_three max_four min_four   -- for this text's walks alone
set_option linter.unusedVariables false
set_option linter.unusedSimpArgs false

/-! ### spec_tmEnd: function 74 -/
mutual
def spec_tmEnd.j0 : Nat → ByteArray → Int → Bool → Option (Int)
 | 0, _, _, _ => none
 | k + 1, x0, x6, x138 => if x138 = true then (some (-1)) else ((spec_tmEnd.f k x0 (wrap64 (x6 + 1))).bind fun t109 => (if t109 ≥ 0 then (if t109 < (x0.size : Int) then (if 0 ≤ t109 then (if (bt x0 t109) = 41 then (some (wrap64 (t109 + 1))) else (some (-1))) else (none)) else (some (-1))) else (some (-1))))
def spec_tmEnd.f : Nat → ByteArray → Int → Option (Int)
 | 0, _, _ => none
 | k + 1, a0, a1 => if a1 ≥ (a0.size : Int) then (some (-1)) else (if 0 ≤ a1 then (if a1 < (a0.size : Int) then (if (bt a0 a1) = 48 then (some (wrap64 (a1 + 1))) else (if (bt a0 a1) = 42 then ((spec_tmEnd.f k a0 (wrap64 (a1 + 1))).bind fun t101 => (some t101)) else (if (bt a0 a1) = 126 then (if (wrap64 (a1 + 1)) < (a0.size : Int) then (if 0 ≤ (wrap64 (a1 + 1)) then (if (bt a0 (wrap64 (a1 + 1))) = 46 then ((spec_tmEnd.f k a0 (wrap64 (a1 + 2))).bind fun t102 => (some t102)) else (some (-1))) else (none)) else (some (-1))) else (if (bt a0 a1) = 35 then (if (wrap64 (a1 + 2)) < (a0.size : Int) then (if 0 ≤ (wrap64 (a1 + 1)) then (if (wrap64 (a1 + 1)) < (a0.size : Int) then ((spec_tmName.f (bt a0 (wrap64 (a1 + 1)))).bind fun t103 => (if t103 = true then (if 0 ≤ (wrap64 (a1 + 2)) then (if (bt a0 (wrap64 (a1 + 2))) = 46 then ((spec_tmEnd.f k a0 (wrap64 (a1 + 3))).bind fun t104 => (some t104)) else (some (-1))) else (none)) else (some (-1)))) else (none)) else (none)) else (some (-1))) else (if (bt a0 a1) = 91 then (if (wrap64 (a1 + 4)) < (a0.size : Int) then (if 0 ≤ (wrap64 (a1 + 1)) then (if (wrap64 (a1 + 1)) < (a0.size : Int) then ((spec_tmName.f (bt a0 (wrap64 (a1 + 1)))).bind fun t105 => (if t105 = true then (if 0 ≤ (wrap64 (a1 + 2)) then (if (wrap64 (a1 + 2)) < (a0.size : Int) then (if (bt a0 (wrap64 (a1 + 2))) = 61 then (if 0 ≤ (wrap64 (a1 + 3)) then (if (wrap64 (a1 + 3)) < (a0.size : Int) then ((spec_tmName.f (bt a0 (wrap64 (a1 + 3)))).bind fun t106 => (if t106 = true then (if 0 ≤ (wrap64 (a1 + 4)) then (if (bt a0 (wrap64 (a1 + 4))) = 93 then ((spec_tmEnd.f k a0 (wrap64 (a1 + 5))).bind fun t107 => (some t107)) else (some (-1))) else (none)) else (some (-1)))) else (none)) else (none)) else (some (-1))) else (none)) else (none)) else (some (-1)))) else (none)) else (none)) else (some (-1))) else (if (bt a0 a1) = 40 then ((spec_tmEnd.f k a0 (wrap64 (a1 + 1))).bind fun t108 => (if t108 < 0 then (spec_tmEnd.j0 k a0 t108 true) else (if t108 ≥ (a0.size : Int) then (spec_tmEnd.j0 k a0 t108 true) else (if 0 ≤ t108 then (if t108 < (a0.size : Int) then (if (bt a0 t108) = 43 then (spec_tmEnd.j0 k a0 t108 false) else (spec_tmEnd.j0 k a0 t108 ((bt a0 t108) != 38))) else (none)) else (none))))) else ((spec_tmName.f (bt a0 a1)).bind fun t110 => (if t110 = true then (if (wrap64 (a1 + 3)) < (a0.size : Int) then (if 0 ≤ (wrap64 (a1 + 1)) then (if (wrap64 (a1 + 1)) < (a0.size : Int) then (if (bt a0 (wrap64 (a1 + 1))) = 33 then (if 0 ≤ (wrap64 (a1 + 2)) then (if (wrap64 (a1 + 2)) < (a0.size : Int) then ((spec_tmName.f (bt a0 (wrap64 (a1 + 2)))).bind fun t111 => (if t111 = true then (if 0 ≤ (wrap64 (a1 + 3)) then (if (bt a0 (wrap64 (a1 + 3))) = 46 then ((spec_tmEnd.f k a0 (wrap64 (a1 + 4))).bind fun t112 => (some t112)) else (some (-1))) else (none)) else (some (-1)))) else (none)) else (none)) else (if (bt a0 (wrap64 (a1 + 1))) = 63 then (if 0 ≤ (wrap64 (a1 + 2)) then (if (wrap64 (a1 + 2)) < (a0.size : Int) then ((spec_tmName.f (bt a0 (wrap64 (a1 + 2)))).bind fun t113 => (if t113 = true then (if 0 ≤ (wrap64 (a1 + 3)) then (if (bt a0 (wrap64 (a1 + 3))) = 46 then ((spec_tmEnd.f k a0 (wrap64 (a1 + 4))).bind fun t114 => (some t114)) else (some (-1))) else (none)) else (some (-1)))) else (none)) else (none)) else (some (-1)))) else (none)) else (none)) else (some (-1))) else (some (-1)))))))))) else (none)) else (none))
end
theorem spec_tmEnd.mono_l : ∀ k, (∀ y0 y1, LeO (spec_tmEnd.f k y0 y1) (spec_tmEnd.f (k + 1) y0 y1)) ∧ (∀ y0 y1 y2, LeO (spec_tmEnd.j0 k y0 y1 y2) (spec_tmEnd.j0 (k + 1) y0 y1 y2))
 | 0 => ⟨fun _ _ r h => by simp [spec_tmEnd.f] at h, fun _ _ _ r h => by simp [spec_tmEnd.j0] at h⟩
 | k + 1 => by
  obtain ⟨ih0, ih1⟩ := spec_tmEnd.mono_l k
  refine ⟨?_, ?_⟩
  ·intro y0 y1
   unfold spec_tmEnd.f
   repeat' first
   | (with_reducible exact ih0 _ _)
   | (with_reducible exact ih1 _ _ _)
   | (with_reducible exact LeO.refl _)
   | (with_reducible exact LeO.none _)
   | (with_reducible refine LeO.ite ?_ ?_)
   | (with_reducible refine LeO.bind ?_ (fun _ => ?_))
   | exact ih0 _ _
   | exact ih1 _ _ _
   | exact LeO.none _
   | refine LeO.ite ?_ ?_
   | refine LeO.bind ?_ (fun _ => ?_)
  ·intro y0 y1 y2
   unfold spec_tmEnd.j0
   repeat' first
   | (with_reducible exact ih0 _ _)
   | (with_reducible exact ih1 _ _ _)
   | (with_reducible exact LeO.refl _)
   | (with_reducible exact LeO.none _)
   | (with_reducible refine LeO.ite ?_ ?_)
   | (with_reducible refine LeO.bind ?_ (fun _ => ?_))
   | exact ih0 _ _
   | exact ih1 _ _ _
   | exact LeO.none _
   | refine LeO.ite ?_ ?_
   | refine LeO.bind ?_ (fun _ => ?_)
theorem spec_tmEnd.mono : ∀ a0 a1 k, LeO (spec_tmEnd.f k a0 a1) (spec_tmEnd.f (k + 1) a0 a1) := by
 intro a0 a1 k
 obtain ⟨ih0, ih1⟩ := spec_tmEnd.mono_l k
 exact ih0 a0 a1
set_option maxHeartbeats 8000000 in
set_option maxRecDepth 100000 in
theorem spec_tmEnd.calls (k : Nat) : ∀ (a0 : ByteArray) (a1 : Int) (r : Int) (w : World) (h : spec_tmEnd.f k a0 a1 = some r),
  Calls Tryz.prog 74 #[.string a0, .int .i64 a1] w fun e w' => e = .returned (.int .i64 r) ∧ Drawn0 w w' := by
 induction k using Nat.strongRecOn with
 | _ k ih =>
 intro a0 a1 r w h
 cases k with
 | zero => exact absurd h (by simp [spec_tmEnd.f])
 | succ k =>
 simp only [spec_tmEnd.f] at h
 have H : (if a1 ≥ (a0.size : Int) then (some (-1)) else (if 0 ≤ a1 then (if a1 < (a0.size : Int) then (if (bt a0 a1) = 48 then (some (wrap64 (a1 + 1))) else (if (bt a0 a1) = 42 then ((spec_tmEnd.f k a0 (wrap64 (a1 + 1))).bind fun t101 => (some t101)) else (if (bt a0 a1) = 126 then (if (wrap64 (a1 + 1)) < (a0.size : Int) then (if 0 ≤ (wrap64 (a1 + 1)) then (if (bt a0 (wrap64 (a1 + 1))) = 46 then ((spec_tmEnd.f k a0 (wrap64 (a1 + 2))).bind fun t102 => (some t102)) else (some (-1))) else (none)) else (some (-1))) else (if (bt a0 a1) = 35 then (if (wrap64 (a1 + 2)) < (a0.size : Int) then (if 0 ≤ (wrap64 (a1 + 1)) then (if (wrap64 (a1 + 1)) < (a0.size : Int) then ((spec_tmName.f (bt a0 (wrap64 (a1 + 1)))).bind fun t103 => (if t103 = true then (if 0 ≤ (wrap64 (a1 + 2)) then (if (bt a0 (wrap64 (a1 + 2))) = 46 then ((spec_tmEnd.f k a0 (wrap64 (a1 + 3))).bind fun t104 => (some t104)) else (some (-1))) else (none)) else (some (-1)))) else (none)) else (none)) else (some (-1))) else (if (bt a0 a1) = 91 then (if (wrap64 (a1 + 4)) < (a0.size : Int) then (if 0 ≤ (wrap64 (a1 + 1)) then (if (wrap64 (a1 + 1)) < (a0.size : Int) then ((spec_tmName.f (bt a0 (wrap64 (a1 + 1)))).bind fun t105 => (if t105 = true then (if 0 ≤ (wrap64 (a1 + 2)) then (if (wrap64 (a1 + 2)) < (a0.size : Int) then (if (bt a0 (wrap64 (a1 + 2))) = 61 then (if 0 ≤ (wrap64 (a1 + 3)) then (if (wrap64 (a1 + 3)) < (a0.size : Int) then ((spec_tmName.f (bt a0 (wrap64 (a1 + 3)))).bind fun t106 => (if t106 = true then (if 0 ≤ (wrap64 (a1 + 4)) then (if (bt a0 (wrap64 (a1 + 4))) = 93 then ((spec_tmEnd.f k a0 (wrap64 (a1 + 5))).bind fun t107 => (some t107)) else (some (-1))) else (none)) else (some (-1)))) else (none)) else (none)) else (some (-1))) else (none)) else (none)) else (some (-1)))) else (none)) else (none)) else (some (-1))) else (if (bt a0 a1) = 40 then ((spec_tmEnd.f k a0 (wrap64 (a1 + 1))).bind fun t108 => (if t108 < 0 then (spec_tmEnd.j0 k a0 t108 true) else (if t108 ≥ (a0.size : Int) then (spec_tmEnd.j0 k a0 t108 true) else (if 0 ≤ t108 then (if t108 < (a0.size : Int) then (if (bt a0 t108) = 43 then (spec_tmEnd.j0 k a0 t108 false) else (spec_tmEnd.j0 k a0 t108 ((bt a0 t108) != 38))) else (none)) else (none))))) else ((spec_tmName.f (bt a0 a1)).bind fun t110 => (if t110 = true then (if (wrap64 (a1 + 3)) < (a0.size : Int) then (if 0 ≤ (wrap64 (a1 + 1)) then (if (wrap64 (a1 + 1)) < (a0.size : Int) then (if (bt a0 (wrap64 (a1 + 1))) = 33 then (if 0 ≤ (wrap64 (a1 + 2)) then (if (wrap64 (a1 + 2)) < (a0.size : Int) then ((spec_tmName.f (bt a0 (wrap64 (a1 + 2)))).bind fun t111 => (if t111 = true then (if 0 ≤ (wrap64 (a1 + 3)) then (if (bt a0 (wrap64 (a1 + 3))) = 46 then ((spec_tmEnd.f k a0 (wrap64 (a1 + 4))).bind fun t112 => (some t112)) else (some (-1))) else (none)) else (some (-1)))) else (none)) else (none)) else (if (bt a0 (wrap64 (a1 + 1))) = 63 then (if 0 ≤ (wrap64 (a1 + 2)) then (if (wrap64 (a1 + 2)) < (a0.size : Int) then ((spec_tmName.f (bt a0 (wrap64 (a1 + 2)))).bind fun t113 => (if t113 = true then (if 0 ≤ (wrap64 (a1 + 3)) then (if (bt a0 (wrap64 (a1 + 3))) = 46 then ((spec_tmEnd.f k a0 (wrap64 (a1 + 4))).bind fun t114 => (some t114)) else (some (-1))) else (none)) else (some (-1)))) else (none)) else (none)) else (some (-1)))) else (none)) else (none)) else (some (-1))) else (some (-1)))))))))) else (none)) else (none))) = some r := h
 clear h
 by_cases c3 : a1 ≥ (a0.size : Int)
 ·rw [if_pos c3] at H
  have c3b0 : decide ((a0.size : Int) ≤ a1) = true := decide_eq_true c3
  clear c3
  obtain rfl := Option.some.inj H
  go_enter Tryz.func74, Tryz.ntmps74
  go_wp2
  go_ret
  exact ⟨by first | rfl | (simp; done) | (simp [*]; done), by repeat (first | exact Drawn0.refl _ | apply Drawn0.step)⟩
 ·rw [if_neg c3] at H
  have c3b0 : decide ((a0.size : Int) ≤ a1) = false := decide_eq_false c3
  clear c3
  by_cases c4 : 0 ≤ a1
  ·rw [if_pos c4] at H
   have c4b0 : decide (0 ≤ a1) = true := decide_eq_true c4
   clear c4
   by_cases c5 : a1 < (a0.size : Int)
   ·rw [if_pos c5] at H
    have c5b0 : decide (a1 < (a0.size : Int)) = true := decide_eq_true c5
    clear c5
    by_cases c7 : (bt a0 a1) = 48
    ·rw [if_pos c7] at H
     have c7b0 : ((bt a0 a1) == 48) = true := beq_iff_eq.mpr c7
     have c7b1 : ((bt a0 a1) != 48) = false := bne_eq_false_iff_eq.mpr c7
     clear c7
     obtain rfl := Option.some.inj H
     have p6 : 0 ≤ (a1 : Int) := of_decide_eq_true (by first | (with_reducible assumption) | assumption)
     have q6 : a1 < (a0.size : Int) := of_decide_eq_true (by first | (with_reducible assumption) | assumption)
     have hx6 := bt_at a0 a1
     replace p6 := eq_true p6
     replace q6 := eq_true q6
     go_enter Tryz.func74, Tryz.ntmps74
     go_wp2
     go_ret
     exact ⟨by first | rfl | (simp; done) | (simp [*]; done), by repeat (first | exact Drawn0.refl _ | apply Drawn0.step)⟩
    ·rw [if_neg c7] at H
     have c7b0 : ((bt a0 a1) == 48) = false := beq_eq_false_iff_ne.mpr c7
     have c7b1 : ((bt a0 a1) != 48) = true := bne_iff_ne.mpr c7
     by_cases c8 : (bt a0 a1) = 42
     ·rw [if_pos c8] at H
      have c8b0 : ((bt a0 a1) == 42) = true := beq_iff_eq.mpr c8
      have c8b1 : ((bt a0 a1) != 42) = false := bne_eq_false_iff_eq.mpr c8
      clear c8
      replace H := Option.bind_eq_some_iff.mp H
      obtain ⟨t101, A90, H⟩ := H
      replace H : (some t101) = some r := H
      have A9 := Aside0.mk A90
      clear A90
      obtain rfl := Option.some.inj H
      have p6 : 0 ≤ (a1 : Int) := of_decide_eq_true (by first | (with_reducible assumption) | assumption)
      have q6 : a1 < (a0.size : Int) := of_decide_eq_true (by first | (with_reducible assumption) | assumption)
      have hx6 := bt_at a0 a1
      replace p6 := eq_true p6
      replace q6 := eq_true q6
      go_enter Tryz.func74, Tryz.ntmps74
      go_wp2_with (first | ((with_reducible refine gate_callee (f := 74) rfl ?_); refine goesL_ (some 26) rfl rfl Tryz.func74 (by kernel_rfl) rfl #[.string a0, .int .i64 (wrap64 (a1 + 1))] rfl (by (try simp only [List.map_toArray, List.map_cons, List.map_nil]); first | done | rfl | (simp only [List.length_drop, List.length_take]; rfl)) ?_; (with_reducible refine (ih k (by omega) a0 (wrap64 (a1 + 1)) t101 _ A9.out).mono ?_); rintro e w' ⟨rfl, ⟨nd, rfl⟩⟩; refine ⟨_, rfl, ?_⟩))
      go_ret
      exact ⟨by first | rfl | (simp; done) | (simp [*]; done), by repeat (first | exact Drawn0.refl _ | apply Drawn0.step)⟩
     ·rw [if_neg c8] at H
      have c8b0 : ((bt a0 a1) == 42) = false := beq_eq_false_iff_ne.mpr c8
      have c8b1 : ((bt a0 a1) != 42) = true := bne_iff_ne.mpr c8
      by_cases c10 : (bt a0 a1) = 126
      ·rw [if_pos c10] at H
       have c10b0 : ((bt a0 a1) == 126) = true := beq_iff_eq.mpr c10
       have c10b1 : ((bt a0 a1) != 126) = false := bne_eq_false_iff_eq.mpr c10
       clear c10
       by_cases c11 : (wrap64 (a1 + 1)) < (a0.size : Int)
       ·rw [if_pos c11] at H
        have c11b0 : decide ((wrap64 (a1 + 1)) < (a0.size : Int)) = true := decide_eq_true c11
        clear c11
        obtain ⟨ji12, hji12⟩ : ∃ j_ : Int, (wrap64 (a1 + 1)) = j_ := ⟨_, rfl⟩
        replace H : (if 0 ≤ (ji12) then (if (bt a0 (ji12)) = 46 then ((spec_tmEnd.f k a0 (wrap64 (a1 + 2))).bind fun t102 => (some t102)) else (some (-1))) else (none)) = some r := by first | (rw [hji12] at H; exact H) | (simp only [hji12] at H ⊢; exact H)
        (try rw [hji12] at c11b0)
        have hji12w : (IntKind.i64.wrap (a1 + 1)) = ji12 := (i64_w _).trans hji12
        by_cases c13 : 0 ≤ (ji12)
        ·rw [if_pos c13] at H
         have c13b0 : decide (0 ≤ (ji12)) = true := decide_eq_true c13
         clear c13
         by_cases c15 : (bt a0 (ji12)) = 46
         ·rw [if_pos c15] at H
          have c15b0 : ((bt a0 (ji12)) == 46) = true := beq_iff_eq.mpr c15
          have c15b1 : ((bt a0 (ji12)) != 46) = false := bne_eq_false_iff_eq.mpr c15
          clear c15
          replace H := Option.bind_eq_some_iff.mp H
          obtain ⟨t102, A160, H⟩ := H
          replace H : (some t102) = some r := H
          have A16 := Aside0.mk A160
          clear A160
          obtain rfl := Option.some.inj H
          have p6 : 0 ≤ (a1 : Int) := of_decide_eq_true (by first | (with_reducible assumption) | assumption)
          have q6 : a1 < (a0.size : Int) := of_decide_eq_true (by first | (with_reducible assumption) | assumption)
          have hx6 := bt_at a0 a1
          replace p6 := eq_true p6
          replace q6 := eq_true q6
          have p14 : 0 ≤ ((ji12) : Int) := of_decide_eq_true (by first | (with_reducible assumption) | assumption)
          have q14 : (ji12) < (a0.size : Int) := of_decide_eq_true (by first | (with_reducible assumption) | assumption)
          have hx14 := bt_at a0 (ji12)
          replace p14 := eq_true p14
          replace q14 := eq_true q14
          go_enter Tryz.func74, Tryz.ntmps74
          go_wp2_with (first | ((with_reducible refine gate_callee (f := 74) rfl ?_); refine goesL_ (some 45) rfl rfl Tryz.func74 (by kernel_rfl) rfl #[.string a0, .int .i64 (wrap64 (a1 + 2))] rfl (by (try simp only [List.map_toArray, List.map_cons, List.map_nil]); first | done | rfl | (simp only [List.length_drop, List.length_take]; rfl)) ?_; (with_reducible refine (ih k (by omega) a0 (wrap64 (a1 + 2)) t102 _ A16.out).mono ?_); rintro e w' ⟨rfl, ⟨nd, rfl⟩⟩; refine ⟨_, rfl, ?_⟩))
          go_ret
          exact ⟨by first | rfl | (simp; done) | (simp only [← hji12] <;> (first | rfl | simp)) | (simp [*]; done), by repeat (first | exact Drawn0.refl _ | apply Drawn0.step)⟩
         ·rw [if_neg c15] at H
          have c15b0 : ((bt a0 (ji12)) == 46) = false := beq_eq_false_iff_ne.mpr c15
          have c15b1 : ((bt a0 (ji12)) != 46) = true := bne_iff_ne.mpr c15
          obtain rfl := Option.some.inj H
          have p6 : 0 ≤ (a1 : Int) := of_decide_eq_true (by first | (with_reducible assumption) | assumption)
          have q6 : a1 < (a0.size : Int) := of_decide_eq_true (by first | (with_reducible assumption) | assumption)
          have hx6 := bt_at a0 a1
          replace p6 := eq_true p6
          replace q6 := eq_true q6
          have p14 : 0 ≤ ((ji12) : Int) := of_decide_eq_true (by first | (with_reducible assumption) | assumption)
          have q14 : (ji12) < (a0.size : Int) := of_decide_eq_true (by first | (with_reducible assumption) | assumption)
          have hx14 := bt_at a0 (ji12)
          replace p14 := eq_true p14
          replace q14 := eq_true q14
          go_enter Tryz.func74, Tryz.ntmps74
          go_wp2
          go_ret
          exact ⟨by first | rfl | (simp; done) | (simp only [← hji12] <;> (first | rfl | simp)) | (simp [*]; done), by repeat (first | exact Drawn0.refl _ | apply Drawn0.step)⟩
        ·rw [if_neg c13] at H
         exact absurd H (by simp)
       ·rw [if_neg c11] at H
        have c11b0 : decide ((wrap64 (a1 + 1)) < (a0.size : Int)) = false := decide_eq_false c11
        clear c11
        obtain rfl := Option.some.inj H
        have p6 : 0 ≤ (a1 : Int) := of_decide_eq_true (by first | (with_reducible assumption) | assumption)
        have q6 : a1 < (a0.size : Int) := of_decide_eq_true (by first | (with_reducible assumption) | assumption)
        have hx6 := bt_at a0 a1
        replace p6 := eq_true p6
        replace q6 := eq_true q6
        go_enter Tryz.func74, Tryz.ntmps74
        go_wp2
        go_ret
        exact ⟨by first | rfl | (simp; done) | (simp [*]; done), by repeat (first | exact Drawn0.refl _ | apply Drawn0.step)⟩
      ·rw [if_neg c10] at H
       have c10b0 : ((bt a0 a1) == 126) = false := beq_eq_false_iff_ne.mpr c10
       have c10b1 : ((bt a0 a1) != 126) = true := bne_iff_ne.mpr c10
       by_cases c17 : (bt a0 a1) = 35
       ·rw [if_pos c17] at H
        have c17b0 : ((bt a0 a1) == 35) = true := beq_iff_eq.mpr c17
        have c17b1 : ((bt a0 a1) != 35) = false := bne_eq_false_iff_eq.mpr c17
        clear c17
        by_cases c18 : (wrap64 (a1 + 2)) < (a0.size : Int)
        ·rw [if_pos c18] at H
         have c18b0 : decide ((wrap64 (a1 + 2)) < (a0.size : Int)) = true := decide_eq_true c18
         clear c18
         obtain ⟨ji19, hji19⟩ : ∃ j_ : Int, (wrap64 (a1 + 1)) = j_ := ⟨_, rfl⟩
         replace H : (if 0 ≤ (ji19) then (if (ji19) < (a0.size : Int) then ((spec_tmName.f (bt a0 (ji19))).bind fun t103 => (if t103 = true then (if 0 ≤ (wrap64 (a1 + 2)) then (if (bt a0 (wrap64 (a1 + 2))) = 46 then ((spec_tmEnd.f k a0 (wrap64 (a1 + 3))).bind fun t104 => (some t104)) else (some (-1))) else (none)) else (some (-1)))) else (none)) else (none)) = some r := by first | (rw [hji19] at H; exact H) | (simp only [hji19] at H ⊢; exact H)
         have hji19w : (IntKind.i64.wrap (a1 + 1)) = ji19 := (i64_w _).trans hji19
         by_cases c20 : 0 ≤ (ji19)
         ·rw [if_pos c20] at H
          have c20b0 : decide (0 ≤ (ji19)) = true := decide_eq_true c20
          clear c20
          by_cases c21 : (ji19) < (a0.size : Int)
          ·rw [if_pos c21] at H
           have c21b0 : decide ((ji19) < (a0.size : Int)) = true := decide_eq_true c21
           clear c21
           replace H := Option.bind_eq_some_iff.mp H
           obtain ⟨t103, A230, H⟩ := H
           replace H : (if t103 = true then (if 0 ≤ (wrap64 (a1 + 2)) then (if (bt a0 (wrap64 (a1 + 2))) = 46 then ((spec_tmEnd.f k a0 (wrap64 (a1 + 3))).bind fun t104 => (some t104)) else (some (-1))) else (none)) else (some (-1))) = some r := H
           have A23 := Aside0.mk A230
           clear A230
           by_cases c24 : t103 = true
           ·subst c24
            have H1 : (if 0 ≤ (wrap64 (a1 + 2)) then (if (bt a0 (wrap64 (a1 + 2))) = 46 then ((spec_tmEnd.f k a0 (wrap64 (a1 + 3))).bind fun t104 => (some t104)) else (some (-1))) else (none)) = some r := by rw [if_pos rfl] at H; exact H
            clear H
            have H := H1
            clear H1
            obtain ⟨ji25, hji25⟩ : ∃ j_ : Int, (wrap64 (a1 + 2)) = j_ := ⟨_, rfl⟩
            replace H : (if 0 ≤ (ji25) then (if (bt a0 (ji25)) = 46 then ((spec_tmEnd.f k a0 (wrap64 (a1 + 3))).bind fun t104 => (some t104)) else (some (-1))) else (none)) = some r := by first | (rw [hji25] at H; exact H) | (simp only [hji25] at H ⊢; exact H)
            (try rw [hji25] at c18b0)
            (try rw [hji25] at A23)
            have hji25w : (IntKind.i64.wrap (a1 + 2)) = ji25 := (i64_w _).trans hji25
            by_cases c26 : 0 ≤ (ji25)
            ·rw [if_pos c26] at H
             have c26b0 : decide (0 ≤ (ji25)) = true := decide_eq_true c26
             clear c26
             by_cases c28 : (bt a0 (ji25)) = 46
             ·rw [if_pos c28] at H
              have c28b0 : ((bt a0 (ji25)) == 46) = true := beq_iff_eq.mpr c28
              have c28b1 : ((bt a0 (ji25)) != 46) = false := bne_eq_false_iff_eq.mpr c28
              clear c28
              replace H := Option.bind_eq_some_iff.mp H
              obtain ⟨t104, A290, H⟩ := H
              replace H : (some t104) = some r := H
              have A29 := Aside0.mk A290
              clear A290
              obtain rfl := Option.some.inj H
              have p6 : 0 ≤ (a1 : Int) := of_decide_eq_true (by first | (with_reducible assumption) | assumption)
              have q6 : a1 < (a0.size : Int) := of_decide_eq_true (by first | (with_reducible assumption) | assumption)
              have hx6 := bt_at a0 a1
              replace p6 := eq_true p6
              replace q6 := eq_true q6
              have p22 : 0 ≤ ((ji19) : Int) := of_decide_eq_true (by first | (with_reducible assumption) | assumption)
              have q22 : (ji19) < (a0.size : Int) := of_decide_eq_true (by first | (with_reducible assumption) | assumption)
              have hx22 := bt_at a0 (ji19)
              replace p22 := eq_true p22
              replace q22 := eq_true q22
              go_enter Tryz.func74, Tryz.ntmps74
              go_wp2_with (first | (go_at_call 96; (with_reducible refine (spec_tmName.calls (bt a0 (ji19)) true _ A23.out).mono ?_); rintro e w' ⟨rfl, ⟨nd, rfl⟩⟩; have p27 : 0 ≤ ((ji25) : Int) := of_decide_eq_true (by first | (with_reducible assumption) | assumption); have q27 : (ji25) < (a0.size : Int) := of_decide_eq_true (by first | (with_reducible assumption) | assumption); have hx27 := bt_at a0 (ji25); replace p27 := eq_true p27; replace q27 := eq_true q27) | ((with_reducible refine gate_callee (f := 74) rfl ?_); refine goesL_ (some 71) rfl rfl Tryz.func74 (by kernel_rfl) rfl #[.string a0, .int .i64 (wrap64 (a1 + 3))] rfl (by (try simp only [List.map_toArray, List.map_cons, List.map_nil]); first | done | rfl | (simp only [List.length_drop, List.length_take]; rfl)) ?_; (with_reducible refine (ih k (by omega) a0 (wrap64 (a1 + 3)) t104 _ A29.out).mono ?_); rintro e w' ⟨rfl, ⟨nd, rfl⟩⟩; refine ⟨_, rfl, ?_⟩))
              go_ret
              exact ⟨by first | rfl | (simp; done) | (simp only [← hji19, ← hji25] <;> (first | rfl | simp)) | (simp [*]; done), by repeat (first | exact Drawn0.refl _ | apply Drawn0.step)⟩
             ·rw [if_neg c28] at H
              have c28b0 : ((bt a0 (ji25)) == 46) = false := beq_eq_false_iff_ne.mpr c28
              have c28b1 : ((bt a0 (ji25)) != 46) = true := bne_iff_ne.mpr c28
              obtain rfl := Option.some.inj H
              have p6 : 0 ≤ (a1 : Int) := of_decide_eq_true (by first | (with_reducible assumption) | assumption)
              have q6 : a1 < (a0.size : Int) := of_decide_eq_true (by first | (with_reducible assumption) | assumption)
              have hx6 := bt_at a0 a1
              replace p6 := eq_true p6
              replace q6 := eq_true q6
              have p22 : 0 ≤ ((ji19) : Int) := of_decide_eq_true (by first | (with_reducible assumption) | assumption)
              have q22 : (ji19) < (a0.size : Int) := of_decide_eq_true (by first | (with_reducible assumption) | assumption)
              have hx22 := bt_at a0 (ji19)
              replace p22 := eq_true p22
              replace q22 := eq_true q22
              go_enter Tryz.func74, Tryz.ntmps74
              go_wp2_with (first | (go_at_call 96; (with_reducible refine (spec_tmName.calls (bt a0 (ji19)) true _ A23.out).mono ?_); rintro e w' ⟨rfl, ⟨nd, rfl⟩⟩; have p27 : 0 ≤ ((ji25) : Int) := of_decide_eq_true (by first | (with_reducible assumption) | assumption); have q27 : (ji25) < (a0.size : Int) := of_decide_eq_true (by first | (with_reducible assumption) | assumption); have hx27 := bt_at a0 (ji25); replace p27 := eq_true p27; replace q27 := eq_true q27))
              go_ret
              exact ⟨by first | rfl | (simp; done) | (simp only [← hji19, ← hji25] <;> (first | rfl | simp)) | (simp [*]; done), by repeat (first | exact Drawn0.refl _ | apply Drawn0.step)⟩
            ·rw [if_neg c26] at H
             exact absurd H (by simp)
           ·replace c24 := Bool.eq_false_iff.mpr c24
            subst c24
            have H1 : (some (-1)) = some r := by rw [if_neg (show ¬ (false = true) by decide)] at H; exact H
            clear H
            have H := H1
            clear H1
            obtain rfl := Option.some.inj H
            have p6 : 0 ≤ (a1 : Int) := of_decide_eq_true (by first | (with_reducible assumption) | assumption)
            have q6 : a1 < (a0.size : Int) := of_decide_eq_true (by first | (with_reducible assumption) | assumption)
            have hx6 := bt_at a0 a1
            replace p6 := eq_true p6
            replace q6 := eq_true q6
            have p22 : 0 ≤ ((ji19) : Int) := of_decide_eq_true (by first | (with_reducible assumption) | assumption)
            have q22 : (ji19) < (a0.size : Int) := of_decide_eq_true (by first | (with_reducible assumption) | assumption)
            have hx22 := bt_at a0 (ji19)
            replace p22 := eq_true p22
            replace q22 := eq_true q22
            go_enter Tryz.func74, Tryz.ntmps74
            go_wp2_with (first | (go_at_call 96; (with_reducible refine (spec_tmName.calls (bt a0 (ji19)) false _ A23.out).mono ?_); rintro e w' ⟨rfl, ⟨nd, rfl⟩⟩))
            go_ret
            exact ⟨by first | rfl | (simp; done) | (simp only [← hji19] <;> (first | rfl | simp)) | (simp [*]; done), by repeat (first | exact Drawn0.refl _ | apply Drawn0.step)⟩
          ·rw [if_neg c21] at H
           exact absurd H (by simp)
         ·rw [if_neg c20] at H
          exact absurd H (by simp)
        ·rw [if_neg c18] at H
         have c18b0 : decide ((wrap64 (a1 + 2)) < (a0.size : Int)) = false := decide_eq_false c18
         clear c18
         obtain rfl := Option.some.inj H
         have p6 : 0 ≤ (a1 : Int) := of_decide_eq_true (by first | (with_reducible assumption) | assumption)
         have q6 : a1 < (a0.size : Int) := of_decide_eq_true (by first | (with_reducible assumption) | assumption)
         have hx6 := bt_at a0 a1
         replace p6 := eq_true p6
         replace q6 := eq_true q6
         go_enter Tryz.func74, Tryz.ntmps74
         go_wp2
         go_ret
         exact ⟨by first | rfl | (simp; done) | (simp [*]; done), by repeat (first | exact Drawn0.refl _ | apply Drawn0.step)⟩
       ·rw [if_neg c17] at H
        have c17b0 : ((bt a0 a1) == 35) = false := beq_eq_false_iff_ne.mpr c17
        have c17b1 : ((bt a0 a1) != 35) = true := bne_iff_ne.mpr c17
        by_cases c30 : (bt a0 a1) = 91
        ·rw [if_pos c30] at H
         have c30b0 : ((bt a0 a1) == 91) = true := beq_iff_eq.mpr c30
         have c30b1 : ((bt a0 a1) != 91) = false := bne_eq_false_iff_eq.mpr c30
         clear c30
         by_cases c31 : (wrap64 (a1 + 4)) < (a0.size : Int)
         ·rw [if_pos c31] at H
          have c31b0 : decide ((wrap64 (a1 + 4)) < (a0.size : Int)) = true := decide_eq_true c31
          clear c31
          obtain ⟨ji32, hji32⟩ : ∃ j_ : Int, (wrap64 (a1 + 1)) = j_ := ⟨_, rfl⟩
          replace H : (if 0 ≤ (ji32) then (if (ji32) < (a0.size : Int) then ((spec_tmName.f (bt a0 (ji32))).bind fun t105 => (if t105 = true then (if 0 ≤ (wrap64 (a1 + 2)) then (if (wrap64 (a1 + 2)) < (a0.size : Int) then (if (bt a0 (wrap64 (a1 + 2))) = 61 then (if 0 ≤ (wrap64 (a1 + 3)) then (if (wrap64 (a1 + 3)) < (a0.size : Int) then ((spec_tmName.f (bt a0 (wrap64 (a1 + 3)))).bind fun t106 => (if t106 = true then (if 0 ≤ (wrap64 (a1 + 4)) then (if (bt a0 (wrap64 (a1 + 4))) = 93 then ((spec_tmEnd.f k a0 (wrap64 (a1 + 5))).bind fun t107 => (some t107)) else (some (-1))) else (none)) else (some (-1)))) else (none)) else (none)) else (some (-1))) else (none)) else (none)) else (some (-1)))) else (none)) else (none)) = some r := by first | (rw [hji32] at H; exact H) | (simp only [hji32] at H ⊢; exact H)
          have hji32w : (IntKind.i64.wrap (a1 + 1)) = ji32 := (i64_w _).trans hji32
          by_cases c33 : 0 ≤ (ji32)
          ·rw [if_pos c33] at H
           have c33b0 : decide (0 ≤ (ji32)) = true := decide_eq_true c33
           clear c33
           by_cases c34 : (ji32) < (a0.size : Int)
           ·rw [if_pos c34] at H
            have c34b0 : decide ((ji32) < (a0.size : Int)) = true := decide_eq_true c34
            clear c34
            replace H := Option.bind_eq_some_iff.mp H
            obtain ⟨t105, A360, H⟩ := H
            replace H : (if t105 = true then (if 0 ≤ (wrap64 (a1 + 2)) then (if (wrap64 (a1 + 2)) < (a0.size : Int) then (if (bt a0 (wrap64 (a1 + 2))) = 61 then (if 0 ≤ (wrap64 (a1 + 3)) then (if (wrap64 (a1 + 3)) < (a0.size : Int) then ((spec_tmName.f (bt a0 (wrap64 (a1 + 3)))).bind fun t106 => (if t106 = true then (if 0 ≤ (wrap64 (a1 + 4)) then (if (bt a0 (wrap64 (a1 + 4))) = 93 then ((spec_tmEnd.f k a0 (wrap64 (a1 + 5))).bind fun t107 => (some t107)) else (some (-1))) else (none)) else (some (-1)))) else (none)) else (none)) else (some (-1))) else (none)) else (none)) else (some (-1))) = some r := H
            have A36 := Aside0.mk A360
            clear A360
            by_cases c37 : t105 = true
            ·subst c37
             have H1 : (if 0 ≤ (wrap64 (a1 + 2)) then (if (wrap64 (a1 + 2)) < (a0.size : Int) then (if (bt a0 (wrap64 (a1 + 2))) = 61 then (if 0 ≤ (wrap64 (a1 + 3)) then (if (wrap64 (a1 + 3)) < (a0.size : Int) then ((spec_tmName.f (bt a0 (wrap64 (a1 + 3)))).bind fun t106 => (if t106 = true then (if 0 ≤ (wrap64 (a1 + 4)) then (if (bt a0 (wrap64 (a1 + 4))) = 93 then ((spec_tmEnd.f k a0 (wrap64 (a1 + 5))).bind fun t107 => (some t107)) else (some (-1))) else (none)) else (some (-1)))) else (none)) else (none)) else (some (-1))) else (none)) else (none)) = some r := by rw [if_pos rfl] at H; exact H
             clear H
             have H := H1
             clear H1
             obtain ⟨ji38, hji38⟩ : ∃ j_ : Int, (wrap64 (a1 + 2)) = j_ := ⟨_, rfl⟩
             replace H : (if 0 ≤ (ji38) then (if (ji38) < (a0.size : Int) then (if (bt a0 (ji38)) = 61 then (if 0 ≤ (wrap64 (a1 + 3)) then (if (wrap64 (a1 + 3)) < (a0.size : Int) then ((spec_tmName.f (bt a0 (wrap64 (a1 + 3)))).bind fun t106 => (if t106 = true then (if 0 ≤ (wrap64 (a1 + 4)) then (if (bt a0 (wrap64 (a1 + 4))) = 93 then ((spec_tmEnd.f k a0 (wrap64 (a1 + 5))).bind fun t107 => (some t107)) else (some (-1))) else (none)) else (some (-1)))) else (none)) else (none)) else (some (-1))) else (none)) else (none)) = some r := by first | (rw [hji38] at H; exact H) | (simp only [hji38] at H ⊢; exact H)
             (try rw [hji38] at A36)
             have hji38w : (IntKind.i64.wrap (a1 + 2)) = ji38 := (i64_w _).trans hji38
             by_cases c39 : 0 ≤ (ji38)
             ·rw [if_pos c39] at H
              have c39b0 : decide (0 ≤ (ji38)) = true := decide_eq_true c39
              clear c39
              by_cases c40 : (ji38) < (a0.size : Int)
              ·rw [if_pos c40] at H
               have c40b0 : decide ((ji38) < (a0.size : Int)) = true := decide_eq_true c40
               clear c40
               by_cases c42 : (bt a0 (ji38)) = 61
               ·rw [if_pos c42] at H
                have c42b0 : ((bt a0 (ji38)) == 61) = true := beq_iff_eq.mpr c42
                have c42b1 : ((bt a0 (ji38)) != 61) = false := bne_eq_false_iff_eq.mpr c42
                clear c42
                obtain ⟨ji43, hji43⟩ : ∃ j_ : Int, (wrap64 (a1 + 3)) = j_ := ⟨_, rfl⟩
                replace H : (if 0 ≤ (ji43) then (if (ji43) < (a0.size : Int) then ((spec_tmName.f (bt a0 (ji43))).bind fun t106 => (if t106 = true then (if 0 ≤ (wrap64 (a1 + 4)) then (if (bt a0 (wrap64 (a1 + 4))) = 93 then ((spec_tmEnd.f k a0 (wrap64 (a1 + 5))).bind fun t107 => (some t107)) else (some (-1))) else (none)) else (some (-1)))) else (none)) else (none)) = some r := by first | (rw [hji43] at H; exact H) | (simp only [hji43] at H ⊢; exact H)
                (try rw [hji43] at A36)
                have hji43w : (IntKind.i64.wrap (a1 + 3)) = ji43 := (i64_w _).trans hji43
                by_cases c44 : 0 ≤ (ji43)
                ·rw [if_pos c44] at H
                 have c44b0 : decide (0 ≤ (ji43)) = true := decide_eq_true c44
                 clear c44
                 by_cases c45 : (ji43) < (a0.size : Int)
                 ·rw [if_pos c45] at H
                  have c45b0 : decide ((ji43) < (a0.size : Int)) = true := decide_eq_true c45
                  clear c45
                  replace H := Option.bind_eq_some_iff.mp H
                  obtain ⟨t106, A470, H⟩ := H
                  replace H : (if t106 = true then (if 0 ≤ (wrap64 (a1 + 4)) then (if (bt a0 (wrap64 (a1 + 4))) = 93 then ((spec_tmEnd.f k a0 (wrap64 (a1 + 5))).bind fun t107 => (some t107)) else (some (-1))) else (none)) else (some (-1))) = some r := H
                  have A47 := Aside0.mk A470
                  clear A470
                  by_cases c48 : t106 = true
                  ·subst c48
                   have H1 : (if 0 ≤ (wrap64 (a1 + 4)) then (if (bt a0 (wrap64 (a1 + 4))) = 93 then ((spec_tmEnd.f k a0 (wrap64 (a1 + 5))).bind fun t107 => (some t107)) else (some (-1))) else (none)) = some r := by rw [if_pos rfl] at H; exact H
                   clear H
                   have H := H1
                   clear H1
                   obtain ⟨ji49, hji49⟩ : ∃ j_ : Int, (wrap64 (a1 + 4)) = j_ := ⟨_, rfl⟩
                   replace H : (if 0 ≤ (ji49) then (if (bt a0 (ji49)) = 93 then ((spec_tmEnd.f k a0 (wrap64 (a1 + 5))).bind fun t107 => (some t107)) else (some (-1))) else (none)) = some r := by first | (rw [hji49] at H; exact H) | (simp only [hji49] at H ⊢; exact H)
                   (try rw [hji49] at c31b0)
                   (try rw [hji49] at A36)
                   (try rw [hji49] at A47)
                   have hji49w : (IntKind.i64.wrap (a1 + 4)) = ji49 := (i64_w _).trans hji49
                   by_cases c50 : 0 ≤ (ji49)
                   ·rw [if_pos c50] at H
                    have c50b0 : decide (0 ≤ (ji49)) = true := decide_eq_true c50
                    clear c50
                    by_cases c52 : (bt a0 (ji49)) = 93
                    ·rw [if_pos c52] at H
                     have c52b0 : ((bt a0 (ji49)) == 93) = true := beq_iff_eq.mpr c52
                     have c52b1 : ((bt a0 (ji49)) != 93) = false := bne_eq_false_iff_eq.mpr c52
                     clear c52
                     replace H := Option.bind_eq_some_iff.mp H
                     obtain ⟨t107, A530, H⟩ := H
                     replace H : (some t107) = some r := H
                     have A53 := Aside0.mk A530
                     clear A530
                     obtain rfl := Option.some.inj H
                     have p6 : 0 ≤ (a1 : Int) := of_decide_eq_true (by first | (with_reducible assumption) | assumption)
                     have q6 : a1 < (a0.size : Int) := of_decide_eq_true (by first | (with_reducible assumption) | assumption)
                     have hx6 := bt_at a0 a1
                     replace p6 := eq_true p6
                     replace q6 := eq_true q6
                     have p35 : 0 ≤ ((ji32) : Int) := of_decide_eq_true (by first | (with_reducible assumption) | assumption)
                     have q35 : (ji32) < (a0.size : Int) := of_decide_eq_true (by first | (with_reducible assumption) | assumption)
                     have hx35 := bt_at a0 (ji32)
                     replace p35 := eq_true p35
                     replace q35 := eq_true q35
                     go_enter Tryz.func74, Tryz.ntmps74
                     go_wp2_with (first | (go_at_call 96; (with_reducible refine (spec_tmName.calls (bt a0 (ji32)) true _ A36.out).mono ?_); rintro e w' ⟨rfl, ⟨nd, rfl⟩⟩; have p41 : 0 ≤ ((ji38) : Int) := of_decide_eq_true (by first | (with_reducible assumption) | assumption); have q41 : (ji38) < (a0.size : Int) := of_decide_eq_true (by first | (with_reducible assumption) | assumption); have hx41 := bt_at a0 (ji38); replace p41 := eq_true p41; replace q41 := eq_true q41; have p46 : 0 ≤ ((ji43) : Int) := of_decide_eq_true (by first | (with_reducible assumption) | assumption); have q46 : (ji43) < (a0.size : Int) := of_decide_eq_true (by first | (with_reducible assumption) | assumption); have hx46 := bt_at a0 (ji43); replace p46 := eq_true p46; replace q46 := eq_true q46) | (go_at_call 96; (with_reducible refine (spec_tmName.calls (bt a0 (ji43)) true _ A47.out).mono ?_); rintro e w' ⟨rfl, ⟨nd, rfl⟩⟩; have p51 : 0 ≤ ((ji49) : Int) := of_decide_eq_true (by first | (with_reducible assumption) | assumption); have q51 : (ji49) < (a0.size : Int) := of_decide_eq_true (by first | (with_reducible assumption) | assumption); have hx51 := bt_at a0 (ji49); replace p51 := eq_true p51; replace q51 := eq_true q51) | ((with_reducible refine gate_callee (f := 74) rfl ?_); refine goesL_ (some 111) rfl rfl Tryz.func74 (by kernel_rfl) rfl #[.string a0, .int .i64 (wrap64 (a1 + 5))] rfl (by (try simp only [List.map_toArray, List.map_cons, List.map_nil]); first | done | rfl | (simp only [List.length_drop, List.length_take]; rfl)) ?_; (with_reducible refine (ih k (by omega) a0 (wrap64 (a1 + 5)) t107 _ A53.out).mono ?_); rintro e w' ⟨rfl, ⟨nd, rfl⟩⟩; refine ⟨_, rfl, ?_⟩))
                     go_ret
                     exact ⟨by first | rfl | (simp; done) | (simp only [← hji32, ← hji38, ← hji43, ← hji49] <;> (first | rfl | simp)) | (simp [*]; done), by repeat (first | exact Drawn0.refl _ | apply Drawn0.step)⟩
                    ·rw [if_neg c52] at H
                     have c52b0 : ((bt a0 (ji49)) == 93) = false := beq_eq_false_iff_ne.mpr c52
                     have c52b1 : ((bt a0 (ji49)) != 93) = true := bne_iff_ne.mpr c52
                     obtain rfl := Option.some.inj H
                     have p6 : 0 ≤ (a1 : Int) := of_decide_eq_true (by first | (with_reducible assumption) | assumption)
                     have q6 : a1 < (a0.size : Int) := of_decide_eq_true (by first | (with_reducible assumption) | assumption)
                     have hx6 := bt_at a0 a1
                     replace p6 := eq_true p6
                     replace q6 := eq_true q6
                     have p35 : 0 ≤ ((ji32) : Int) := of_decide_eq_true (by first | (with_reducible assumption) | assumption)
                     have q35 : (ji32) < (a0.size : Int) := of_decide_eq_true (by first | (with_reducible assumption) | assumption)
                     have hx35 := bt_at a0 (ji32)
                     replace p35 := eq_true p35
                     replace q35 := eq_true q35
                     go_enter Tryz.func74, Tryz.ntmps74
                     go_wp2_with (first | (go_at_call 96; (with_reducible refine (spec_tmName.calls (bt a0 (ji32)) true _ A36.out).mono ?_); rintro e w' ⟨rfl, ⟨nd, rfl⟩⟩; have p41 : 0 ≤ ((ji38) : Int) := of_decide_eq_true (by first | (with_reducible assumption) | assumption); have q41 : (ji38) < (a0.size : Int) := of_decide_eq_true (by first | (with_reducible assumption) | assumption); have hx41 := bt_at a0 (ji38); replace p41 := eq_true p41; replace q41 := eq_true q41; have p46 : 0 ≤ ((ji43) : Int) := of_decide_eq_true (by first | (with_reducible assumption) | assumption); have q46 : (ji43) < (a0.size : Int) := of_decide_eq_true (by first | (with_reducible assumption) | assumption); have hx46 := bt_at a0 (ji43); replace p46 := eq_true p46; replace q46 := eq_true q46) | (go_at_call 96; (with_reducible refine (spec_tmName.calls (bt a0 (ji43)) true _ A47.out).mono ?_); rintro e w' ⟨rfl, ⟨nd, rfl⟩⟩; have p51 : 0 ≤ ((ji49) : Int) := of_decide_eq_true (by first | (with_reducible assumption) | assumption); have q51 : (ji49) < (a0.size : Int) := of_decide_eq_true (by first | (with_reducible assumption) | assumption); have hx51 := bt_at a0 (ji49); replace p51 := eq_true p51; replace q51 := eq_true q51))
                     go_ret
                     exact ⟨by first | rfl | (simp; done) | (simp only [← hji32, ← hji38, ← hji43, ← hji49] <;> (first | rfl | simp)) | (simp [*]; done), by repeat (first | exact Drawn0.refl _ | apply Drawn0.step)⟩
                   ·rw [if_neg c50] at H
                    exact absurd H (by simp)
                  ·replace c48 := Bool.eq_false_iff.mpr c48
                   subst c48
                   have H1 : (some (-1)) = some r := by rw [if_neg (show ¬ (false = true) by decide)] at H; exact H
                   clear H
                   have H := H1
                   clear H1
                   obtain rfl := Option.some.inj H
                   have p6 : 0 ≤ (a1 : Int) := of_decide_eq_true (by first | (with_reducible assumption) | assumption)
                   have q6 : a1 < (a0.size : Int) := of_decide_eq_true (by first | (with_reducible assumption) | assumption)
                   have hx6 := bt_at a0 a1
                   replace p6 := eq_true p6
                   replace q6 := eq_true q6
                   have p35 : 0 ≤ ((ji32) : Int) := of_decide_eq_true (by first | (with_reducible assumption) | assumption)
                   have q35 : (ji32) < (a0.size : Int) := of_decide_eq_true (by first | (with_reducible assumption) | assumption)
                   have hx35 := bt_at a0 (ji32)
                   replace p35 := eq_true p35
                   replace q35 := eq_true q35
                   go_enter Tryz.func74, Tryz.ntmps74
                   go_wp2_with (first | (go_at_call 96; (with_reducible refine (spec_tmName.calls (bt a0 (ji32)) true _ A36.out).mono ?_); rintro e w' ⟨rfl, ⟨nd, rfl⟩⟩; have p41 : 0 ≤ ((ji38) : Int) := of_decide_eq_true (by first | (with_reducible assumption) | assumption); have q41 : (ji38) < (a0.size : Int) := of_decide_eq_true (by first | (with_reducible assumption) | assumption); have hx41 := bt_at a0 (ji38); replace p41 := eq_true p41; replace q41 := eq_true q41; have p46 : 0 ≤ ((ji43) : Int) := of_decide_eq_true (by first | (with_reducible assumption) | assumption); have q46 : (ji43) < (a0.size : Int) := of_decide_eq_true (by first | (with_reducible assumption) | assumption); have hx46 := bt_at a0 (ji43); replace p46 := eq_true p46; replace q46 := eq_true q46) | (go_at_call 96; (with_reducible refine (spec_tmName.calls (bt a0 (ji43)) false _ A47.out).mono ?_); rintro e w' ⟨rfl, ⟨nd, rfl⟩⟩))
                   go_ret
                   exact ⟨by first | rfl | (simp; done) | (simp only [← hji32, ← hji38, ← hji43] <;> (first | rfl | simp)) | (simp [*]; done), by repeat (first | exact Drawn0.refl _ | apply Drawn0.step)⟩
                 ·rw [if_neg c45] at H
                  exact absurd H (by simp)
                ·rw [if_neg c44] at H
                 exact absurd H (by simp)
               ·rw [if_neg c42] at H
                have c42b0 : ((bt a0 (ji38)) == 61) = false := beq_eq_false_iff_ne.mpr c42
                have c42b1 : ((bt a0 (ji38)) != 61) = true := bne_iff_ne.mpr c42
                obtain rfl := Option.some.inj H
                have p6 : 0 ≤ (a1 : Int) := of_decide_eq_true (by first | (with_reducible assumption) | assumption)
                have q6 : a1 < (a0.size : Int) := of_decide_eq_true (by first | (with_reducible assumption) | assumption)
                have hx6 := bt_at a0 a1
                replace p6 := eq_true p6
                replace q6 := eq_true q6
                have p35 : 0 ≤ ((ji32) : Int) := of_decide_eq_true (by first | (with_reducible assumption) | assumption)
                have q35 : (ji32) < (a0.size : Int) := of_decide_eq_true (by first | (with_reducible assumption) | assumption)
                have hx35 := bt_at a0 (ji32)
                replace p35 := eq_true p35
                replace q35 := eq_true q35
                go_enter Tryz.func74, Tryz.ntmps74
                go_wp2_with (first | (go_at_call 96; (with_reducible refine (spec_tmName.calls (bt a0 (ji32)) true _ A36.out).mono ?_); rintro e w' ⟨rfl, ⟨nd, rfl⟩⟩; have p41 : 0 ≤ ((ji38) : Int) := of_decide_eq_true (by first | (with_reducible assumption) | assumption); have q41 : (ji38) < (a0.size : Int) := of_decide_eq_true (by first | (with_reducible assumption) | assumption); have hx41 := bt_at a0 (ji38); replace p41 := eq_true p41; replace q41 := eq_true q41))
                go_ret
                exact ⟨by first | rfl | (simp; done) | (simp only [← hji32, ← hji38] <;> (first | rfl | simp)) | (simp [*]; done), by repeat (first | exact Drawn0.refl _ | apply Drawn0.step)⟩
              ·rw [if_neg c40] at H
               exact absurd H (by simp)
             ·rw [if_neg c39] at H
              exact absurd H (by simp)
            ·replace c37 := Bool.eq_false_iff.mpr c37
             subst c37
             have H1 : (some (-1)) = some r := by rw [if_neg (show ¬ (false = true) by decide)] at H; exact H
             clear H
             have H := H1
             clear H1
             obtain rfl := Option.some.inj H
             have p6 : 0 ≤ (a1 : Int) := of_decide_eq_true (by first | (with_reducible assumption) | assumption)
             have q6 : a1 < (a0.size : Int) := of_decide_eq_true (by first | (with_reducible assumption) | assumption)
             have hx6 := bt_at a0 a1
             replace p6 := eq_true p6
             replace q6 := eq_true q6
             have p35 : 0 ≤ ((ji32) : Int) := of_decide_eq_true (by first | (with_reducible assumption) | assumption)
             have q35 : (ji32) < (a0.size : Int) := of_decide_eq_true (by first | (with_reducible assumption) | assumption)
             have hx35 := bt_at a0 (ji32)
             replace p35 := eq_true p35
             replace q35 := eq_true q35
             go_enter Tryz.func74, Tryz.ntmps74
             go_wp2_with (first | (go_at_call 96; (with_reducible refine (spec_tmName.calls (bt a0 (ji32)) false _ A36.out).mono ?_); rintro e w' ⟨rfl, ⟨nd, rfl⟩⟩))
             go_ret
             exact ⟨by first | rfl | (simp; done) | (simp only [← hji32] <;> (first | rfl | simp)) | (simp [*]; done), by repeat (first | exact Drawn0.refl _ | apply Drawn0.step)⟩
           ·rw [if_neg c34] at H
            exact absurd H (by simp)
          ·rw [if_neg c33] at H
           exact absurd H (by simp)
         ·rw [if_neg c31] at H
          have c31b0 : decide ((wrap64 (a1 + 4)) < (a0.size : Int)) = false := decide_eq_false c31
          clear c31
          obtain rfl := Option.some.inj H
          have p6 : 0 ≤ (a1 : Int) := of_decide_eq_true (by first | (with_reducible assumption) | assumption)
          have q6 : a1 < (a0.size : Int) := of_decide_eq_true (by first | (with_reducible assumption) | assumption)
          have hx6 := bt_at a0 a1
          replace p6 := eq_true p6
          replace q6 := eq_true q6
          go_enter Tryz.func74, Tryz.ntmps74
          go_wp2
          go_ret
          exact ⟨by first | rfl | (simp; done) | (simp [*]; done), by repeat (first | exact Drawn0.refl _ | apply Drawn0.step)⟩
        ·rw [if_neg c30] at H
         have c30b0 : ((bt a0 a1) == 91) = false := beq_eq_false_iff_ne.mpr c30
         have c30b1 : ((bt a0 a1) != 91) = true := bne_iff_ne.mpr c30
         by_cases c54 : (bt a0 a1) = 40
         ·rw [if_pos c54] at H
          have c54b0 : ((bt a0 a1) == 40) = true := beq_iff_eq.mpr c54
          have c54b1 : ((bt a0 a1) != 40) = false := bne_eq_false_iff_eq.mpr c54
          clear c54
          replace H := Option.bind_eq_some_iff.mp H
          obtain ⟨t108, A550, H⟩ := H
          replace H : (if t108 < 0 then (spec_tmEnd.j0 k a0 t108 true) else (if t108 ≥ (a0.size : Int) then (spec_tmEnd.j0 k a0 t108 true) else (if 0 ≤ t108 then (if t108 < (a0.size : Int) then (if (bt a0 t108) = 43 then (spec_tmEnd.j0 k a0 t108 false) else (spec_tmEnd.j0 k a0 t108 ((bt a0 t108) != 38))) else (none)) else (none)))) = some r := H
          have A55 := Aside0.mk A550
          clear A550
          have HC56 := Aside0.mk H
          clear H
          have p6 : 0 ≤ (a1 : Int) := of_decide_eq_true (by first | (with_reducible assumption) | assumption)
          have q6 : a1 < (a0.size : Int) := of_decide_eq_true (by first | (with_reducible assumption) | assumption)
          have hx6 := bt_at a0 a1
          replace p6 := eq_true p6
          replace q6 := eq_true q6
          go_enter Tryz.func74, Tryz.ntmps74
          go_upto_region 19 with (first | ((with_reducible refine gate_callee (f := 74) rfl ?_); refine goesL_ (some 118) rfl rfl Tryz.func74 (by kernel_rfl) rfl #[.string a0, .int .i64 (wrap64 (a1 + 1))] rfl (by (try simp only [List.map_toArray, List.map_cons, List.map_nil]); first | done | rfl | (simp only [List.length_drop, List.length_take]; rfl)) ?_; (with_reducible refine (ih k (by omega) a0 (wrap64 (a1 + 1)) t108 _ A55.out).mono ?_); rintro e w' ⟨rfl, ⟨nd, rfl⟩⟩; refine ⟨_, rfl, ?_⟩))
          (try simp only [Act.put, List.setIfInBounds_toArray, List.set_cons_zero, List.set_cons_succ])
          go_cut [138] (fun v138 wc => ∃ (kq : Nat) (x138_55 : Bool), v138 = .bool x138_55 ∧ Aside0 (spec_tmEnd.j0 kq a0 t108 x138_55 = some r) ∧ Aside0 (kq ≤ k) ∧ Drawn0 w wc)
          case first =>
           have H := HC56.out
           clear HC56
           by_cases c57 : t108 < 0
           ·rw [if_pos c57] at H
            have c57b0 : decide (t108 < 0) = true := decide_eq_true c57
            clear c57
            (first | rw [c57b0] | (simp only [i64_w, i32_w]; rw [c57b0]) | skip)
            have H' := Aside0.mk H
            clear H
            go_wp2
            go_meet
            case rel => exact ⟨_, (true), (by first | rfl | (simp; done) | (simp [*]; done)), H', ⟨by first | omega | exact Nat.le_refl _⟩, by repeat (first | exact Drawn0.refl _ | apply Drawn0.step)⟩
           ·rw [if_neg c57] at H
            have c57b0 : decide (t108 < 0) = false := decide_eq_false c57
            clear c57
            (first | rw [c57b0] | (simp only [i64_w, i32_w]; rw [c57b0]) | skip)
            by_cases c58 : t108 ≥ (a0.size : Int)
            ·rw [if_pos c58] at H
             have c58b0 : decide ((a0.size : Int) ≤ t108) = true := decide_eq_true c58
             clear c58
             have H' := Aside0.mk H
             clear H
             go_wp2
             go_meet
             case rel => exact ⟨_, (true), (by first | rfl | (simp; done) | (simp [*]; done)), H', ⟨by first | omega | exact Nat.le_refl _⟩, by repeat (first | exact Drawn0.refl _ | apply Drawn0.step)⟩
            ·rw [if_neg c58] at H
             have c58b0 : decide ((a0.size : Int) ≤ t108) = false := decide_eq_false c58
             clear c58
             by_cases c59 : 0 ≤ t108
             ·rw [if_pos c59] at H
              have c59b0 : decide (0 ≤ t108) = true := decide_eq_true c59
              clear c59
              by_cases c60 : t108 < (a0.size : Int)
              ·rw [if_pos c60] at H
               have c60b0 : decide (t108 < (a0.size : Int)) = true := decide_eq_true c60
               clear c60
               by_cases c62 : (bt a0 t108) = 43
               ·rw [if_pos c62] at H
                have c62b0 : ((bt a0 t108) == 43) = true := beq_iff_eq.mpr c62
                have c62b1 : ((bt a0 t108) != 43) = false := bne_eq_false_iff_eq.mpr c62
                clear c62
                have H' := Aside0.mk H
                clear H
                have p61 : 0 ≤ (t108 : Int) := of_decide_eq_true (by first | (with_reducible assumption) | assumption)
                have q61 : t108 < (a0.size : Int) := of_decide_eq_true (by first | (with_reducible assumption) | assumption)
                have hx61 := bt_at a0 t108
                replace p61 := eq_true p61
                replace q61 := eq_true q61
                go_wp2
                go_meet
                case rel => exact ⟨_, (false), (by first | rfl | (simp; done) | (simp [*]; done)), H', ⟨by first | omega | exact Nat.le_refl _⟩, by repeat (first | exact Drawn0.refl _ | apply Drawn0.step)⟩
               ·rw [if_neg c62] at H
                have c62b0 : ((bt a0 t108) == 43) = false := beq_eq_false_iff_ne.mpr c62
                have c62b1 : ((bt a0 t108) != 43) = true := bne_iff_ne.mpr c62
                have H' := Aside0.mk H
                clear H
                have p61 : 0 ≤ (t108 : Int) := of_decide_eq_true (by first | (with_reducible assumption) | assumption)
                have q61 : t108 < (a0.size : Int) := of_decide_eq_true (by first | (with_reducible assumption) | assumption)
                have hx61 := bt_at a0 t108
                replace p61 := eq_true p61
                replace q61 := eq_true q61
                have p63 : 0 ≤ (t108 : Int) := of_decide_eq_true (by first | (with_reducible assumption) | assumption)
                have q63 : t108 < (a0.size : Int) := of_decide_eq_true (by first | (with_reducible assumption) | assumption)
                have hx63 := bt_at a0 t108
                replace p63 := eq_true p63
                replace q63 := eq_true q63
                go_wp2
                go_meet
                case rel => exact ⟨_, (((bt a0 t108) != 38)), (by first | rfl | (simp; done) | (simp [*]; done)), H', ⟨by first | omega | exact Nat.le_refl _⟩, by repeat (first | exact Drawn0.refl _ | apply Drawn0.step)⟩
              ·rw [if_neg c60] at H
               exact absurd H (by simp)
             ·rw [if_neg c59] at H
              exact absurd H (by simp)
          case rest =>
           clear HC56
           try clear c1
           try clear p1
           try clear q1
           try clear hx1
           try clear c2
           try clear p2
           try clear q2
           try clear hx2
           try clear c3
           try clear c3b0
           try clear p3
           try clear q3
           try clear hx3
           try clear c4
           try clear c4b0
           try clear p4
           try clear q4
           try clear hx4
           try clear c5
           try clear c5b0
           try clear p5
           try clear q5
           try clear hx5
           try clear c6
           try clear p6
           try clear q6
           try clear hx6
           try clear c7
           try clear c7b0
           try clear c7b1
           try clear c8
           try clear c8b0
           try clear c8b1
           try clear c10
           try clear c10b0
           try clear c10b1
           try clear c11
           try clear c11b0
           try clear c13
           try clear c13b0
           try clear p14
           try clear q14
           try clear hx14
           try clear c15
           try clear c15b0
           try clear c15b1
           try clear c17
           try clear c17b0
           try clear c17b1
           try clear c18
           try clear c18b0
           try clear c20
           try clear c20b0
           try clear c21
           try clear c21b0
           try clear p22
           try clear q22
           try clear hx22
           try clear c24
           try clear c26
           try clear c26b0
           try clear p27
           try clear q27
           try clear hx27
           try clear c28
           try clear c28b0
           try clear c28b1
           try clear c30
           try clear c30b0
           try clear c30b1
           try clear c31
           try clear c31b0
           try clear c33
           try clear c33b0
           try clear c34
           try clear c34b0
           try clear p35
           try clear q35
           try clear hx35
           try clear c37
           try clear c39
           try clear c39b0
           try clear c40
           try clear c40b0
           try clear p41
           try clear q41
           try clear hx41
           try clear c42
           try clear c42b0
           try clear c42b1
           try clear c44
           try clear c44b0
           try clear c45
           try clear c45b0
           try clear p46
           try clear q46
           try clear hx46
           try clear c48
           try clear c50
           try clear c50b0
           try clear p51
           try clear q51
           try clear hx51
           try clear c52
           try clear c52b0
           try clear c52b1
           try clear c54
           try clear c54b0
           try clear c54b1
           try clear c57
           try clear c57b0
           try clear c58
           try clear c58b0
           try clear c59
           try clear c59b0
           try clear c60
           try clear c60b0
           try clear p61
           try clear q61
           try clear hx61
           try clear c62
           try clear c62b0
           try clear c62b1
           try clear p63
           try clear q63
           try clear hx63
           try clear p14
           try clear p22
           try clear p27
           try clear p35
           try clear p41
           try clear p46
           try clear p51
           try clear p6
           try clear p61
           try clear p63
           try clear q14
           try clear q22
           try clear q27
           try clear q35
           try clear q41
           try clear q46
           try clear q51
           try clear q6
           try clear q61
           try clear q63
           obtain ⟨kq, x138_55, rfl, HA, HJ55, ⟨mc55, rfl⟩⟩ := hcut
           cases kq with
           | zero => exact absurd HA.out (by simp [spec_tmEnd.j0])
           | succ kj55 =>
            have H := HA.out
            clear HA
            simp only [spec_tmEnd.j0] at H
            by_cases c64 : x138_55 = true
            ·subst c64
             have H1 : (some (-1)) = some r := by rw [if_pos rfl] at H; exact H
             clear H
             have H := H1
             clear H1
             obtain rfl := Option.some.inj H
             go_wp2
             go_ret
             exact ⟨by first | rfl | (simp; done) | (simp [*]; done), by repeat (first | exact Drawn0.refl _ | apply Drawn0.step)⟩
            ·replace c64 := Bool.eq_false_iff.mpr c64
             subst c64
             have H1 : ((spec_tmEnd.f kj55 a0 (wrap64 (t108 + 1))).bind fun t109 => (if t109 ≥ 0 then (if t109 < (a0.size : Int) then (if 0 ≤ t109 then (if (bt a0 t109) = 41 then (some (wrap64 (t109 + 1))) else (some (-1))) else (none)) else (some (-1))) else (some (-1)))) = some r := by rw [if_neg (show ¬ (false = true) by decide)] at H; exact H
             clear H
             have H := H1
             clear H1
             replace H := Option.bind_eq_some_iff.mp H
             obtain ⟨t109, A650, H⟩ := H
             replace H : (if t109 ≥ 0 then (if t109 < (a0.size : Int) then (if 0 ≤ t109 then (if (bt a0 t109) = 41 then (some (wrap64 (t109 + 1))) else (some (-1))) else (none)) else (some (-1))) else (some (-1))) = some r := H
             have A65 := Aside0.mk A650
             clear A650
             by_cases c66 : t109 ≥ 0
             ·rw [if_pos c66] at H
              have c66b0 : decide (0 ≤ t109) = true := decide_eq_true c66
              clear c66
              by_cases c67 : t109 < (a0.size : Int)
              ·rw [if_pos c67] at H
               have c67b0 : decide (t109 < (a0.size : Int)) = true := decide_eq_true c67
               clear c67
               by_cases c68 : 0 ≤ t109
               ·rw [if_pos c68] at H
                have c68b0 : decide (0 ≤ t109) = true := decide_eq_true c68
                clear c68
                by_cases c70 : (bt a0 t109) = 41
                ·rw [if_pos c70] at H
                 have c70b0 : ((bt a0 t109) == 41) = true := beq_iff_eq.mpr c70
                 have c70b1 : ((bt a0 t109) != 41) = false := bne_eq_false_iff_eq.mpr c70
                 clear c70
                 obtain rfl := Option.some.inj H
                 go_wp2_with (first | ((with_reducible refine gate_callee (f := 74) rfl ?_); refine goesL_ (some 142) rfl rfl Tryz.func74 (by kernel_rfl) rfl #[.string a0, .int .i64 (wrap64 (t108 + 1))] rfl (by (try simp only [List.map_toArray, List.map_cons, List.map_nil]); first | done | rfl | (simp only [List.length_drop, List.length_take]; rfl)) ?_; (with_reducible refine (ih kj55 (by have := HJ55.out; omega) a0 (wrap64 (t108 + 1)) t109 _ A65.out).mono ?_); rintro e w' ⟨rfl, ⟨nd, rfl⟩⟩; refine ⟨_, rfl, ?_⟩; have p69 : 0 ≤ (t109 : Int) := of_decide_eq_true (by first | (with_reducible assumption) | assumption); have q69 : t109 < (a0.size : Int) := of_decide_eq_true (by first | (with_reducible assumption) | assumption); have hx69 := bt_at a0 t109; replace p69 := eq_true p69; replace q69 := eq_true q69))
                 go_ret
                 exact ⟨by first | rfl | (simp; done) | (simp [*]; done), by repeat (first | exact Drawn0.refl _ | apply Drawn0.step)⟩
                ·rw [if_neg c70] at H
                 have c70b0 : ((bt a0 t109) == 41) = false := beq_eq_false_iff_ne.mpr c70
                 have c70b1 : ((bt a0 t109) != 41) = true := bne_iff_ne.mpr c70
                 obtain rfl := Option.some.inj H
                 go_wp2_with (first | ((with_reducible refine gate_callee (f := 74) rfl ?_); refine goesL_ (some 142) rfl rfl Tryz.func74 (by kernel_rfl) rfl #[.string a0, .int .i64 (wrap64 (t108 + 1))] rfl (by (try simp only [List.map_toArray, List.map_cons, List.map_nil]); first | done | rfl | (simp only [List.length_drop, List.length_take]; rfl)) ?_; (with_reducible refine (ih kj55 (by have := HJ55.out; omega) a0 (wrap64 (t108 + 1)) t109 _ A65.out).mono ?_); rintro e w' ⟨rfl, ⟨nd, rfl⟩⟩; refine ⟨_, rfl, ?_⟩; have p69 : 0 ≤ (t109 : Int) := of_decide_eq_true (by first | (with_reducible assumption) | assumption); have q69 : t109 < (a0.size : Int) := of_decide_eq_true (by first | (with_reducible assumption) | assumption); have hx69 := bt_at a0 t109; replace p69 := eq_true p69; replace q69 := eq_true q69))
                 go_ret
                 exact ⟨by first | rfl | (simp; done) | (simp [*]; done), by repeat (first | exact Drawn0.refl _ | apply Drawn0.step)⟩
               ·rw [if_neg c68] at H
                exact absurd H (by simp)
              ·rw [if_neg c67] at H
               have c67b0 : decide (t109 < (a0.size : Int)) = false := decide_eq_false c67
               clear c67
               obtain rfl := Option.some.inj H
               go_wp2_with (first | ((with_reducible refine gate_callee (f := 74) rfl ?_); refine goesL_ (some 142) rfl rfl Tryz.func74 (by kernel_rfl) rfl #[.string a0, .int .i64 (wrap64 (t108 + 1))] rfl (by (try simp only [List.map_toArray, List.map_cons, List.map_nil]); first | done | rfl | (simp only [List.length_drop, List.length_take]; rfl)) ?_; (with_reducible refine (ih kj55 (by have := HJ55.out; omega) a0 (wrap64 (t108 + 1)) t109 _ A65.out).mono ?_); rintro e w' ⟨rfl, ⟨nd, rfl⟩⟩; refine ⟨_, rfl, ?_⟩))
               go_ret
               exact ⟨by first | rfl | (simp; done) | (simp [*]; done), by repeat (first | exact Drawn0.refl _ | apply Drawn0.step)⟩
             ·rw [if_neg c66] at H
              have c66b0 : decide (0 ≤ t109) = false := decide_eq_false c66
              clear c66
              obtain rfl := Option.some.inj H
              go_wp2_with (first | ((with_reducible refine gate_callee (f := 74) rfl ?_); refine goesL_ (some 142) rfl rfl Tryz.func74 (by kernel_rfl) rfl #[.string a0, .int .i64 (wrap64 (t108 + 1))] rfl (by (try simp only [List.map_toArray, List.map_cons, List.map_nil]); first | done | rfl | (simp only [List.length_drop, List.length_take]; rfl)) ?_; (with_reducible refine (ih kj55 (by have := HJ55.out; omega) a0 (wrap64 (t108 + 1)) t109 _ A65.out).mono ?_); rintro e w' ⟨rfl, ⟨nd, rfl⟩⟩; refine ⟨_, rfl, ?_⟩))
              go_ret
              exact ⟨by first | rfl | (simp; done) | (simp [*]; done), by repeat (first | exact Drawn0.refl _ | apply Drawn0.step)⟩
         ·rw [if_neg c54] at H
          have c54b0 : ((bt a0 a1) == 40) = false := beq_eq_false_iff_ne.mpr c54
          have c54b1 : ((bt a0 a1) != 40) = true := bne_iff_ne.mpr c54
          replace H := Option.bind_eq_some_iff.mp H
          obtain ⟨t110, A710, H⟩ := H
          replace H : (if t110 = true then (if (wrap64 (a1 + 3)) < (a0.size : Int) then (if 0 ≤ (wrap64 (a1 + 1)) then (if (wrap64 (a1 + 1)) < (a0.size : Int) then (if (bt a0 (wrap64 (a1 + 1))) = 33 then (if 0 ≤ (wrap64 (a1 + 2)) then (if (wrap64 (a1 + 2)) < (a0.size : Int) then ((spec_tmName.f (bt a0 (wrap64 (a1 + 2)))).bind fun t111 => (if t111 = true then (if 0 ≤ (wrap64 (a1 + 3)) then (if (bt a0 (wrap64 (a1 + 3))) = 46 then ((spec_tmEnd.f k a0 (wrap64 (a1 + 4))).bind fun t112 => (some t112)) else (some (-1))) else (none)) else (some (-1)))) else (none)) else (none)) else (if (bt a0 (wrap64 (a1 + 1))) = 63 then (if 0 ≤ (wrap64 (a1 + 2)) then (if (wrap64 (a1 + 2)) < (a0.size : Int) then ((spec_tmName.f (bt a0 (wrap64 (a1 + 2)))).bind fun t113 => (if t113 = true then (if 0 ≤ (wrap64 (a1 + 3)) then (if (bt a0 (wrap64 (a1 + 3))) = 46 then ((spec_tmEnd.f k a0 (wrap64 (a1 + 4))).bind fun t114 => (some t114)) else (some (-1))) else (none)) else (some (-1)))) else (none)) else (none)) else (some (-1)))) else (none)) else (none)) else (some (-1))) else (some (-1))) = some r := H
          have A71 := Aside0.mk A710
          clear A710
          by_cases c72 : t110 = true
          ·subst c72
           have H1 : (if (wrap64 (a1 + 3)) < (a0.size : Int) then (if 0 ≤ (wrap64 (a1 + 1)) then (if (wrap64 (a1 + 1)) < (a0.size : Int) then (if (bt a0 (wrap64 (a1 + 1))) = 33 then (if 0 ≤ (wrap64 (a1 + 2)) then (if (wrap64 (a1 + 2)) < (a0.size : Int) then ((spec_tmName.f (bt a0 (wrap64 (a1 + 2)))).bind fun t111 => (if t111 = true then (if 0 ≤ (wrap64 (a1 + 3)) then (if (bt a0 (wrap64 (a1 + 3))) = 46 then ((spec_tmEnd.f k a0 (wrap64 (a1 + 4))).bind fun t112 => (some t112)) else (some (-1))) else (none)) else (some (-1)))) else (none)) else (none)) else (if (bt a0 (wrap64 (a1 + 1))) = 63 then (if 0 ≤ (wrap64 (a1 + 2)) then (if (wrap64 (a1 + 2)) < (a0.size : Int) then ((spec_tmName.f (bt a0 (wrap64 (a1 + 2)))).bind fun t113 => (if t113 = true then (if 0 ≤ (wrap64 (a1 + 3)) then (if (bt a0 (wrap64 (a1 + 3))) = 46 then ((spec_tmEnd.f k a0 (wrap64 (a1 + 4))).bind fun t114 => (some t114)) else (some (-1))) else (none)) else (some (-1)))) else (none)) else (none)) else (some (-1)))) else (none)) else (none)) else (some (-1))) = some r := by rw [if_pos rfl] at H; exact H
           clear H
           have H := H1
           clear H1
           by_cases c73 : (wrap64 (a1 + 3)) < (a0.size : Int)
           ·rw [if_pos c73] at H
            have c73b0 : decide ((wrap64 (a1 + 3)) < (a0.size : Int)) = true := decide_eq_true c73
            clear c73
            obtain ⟨ji74, hji74⟩ : ∃ j_ : Int, (wrap64 (a1 + 1)) = j_ := ⟨_, rfl⟩
            replace H : (if 0 ≤ (ji74) then (if (ji74) < (a0.size : Int) then (if (bt a0 (ji74)) = 33 then (if 0 ≤ (wrap64 (a1 + 2)) then (if (wrap64 (a1 + 2)) < (a0.size : Int) then ((spec_tmName.f (bt a0 (wrap64 (a1 + 2)))).bind fun t111 => (if t111 = true then (if 0 ≤ (wrap64 (a1 + 3)) then (if (bt a0 (wrap64 (a1 + 3))) = 46 then ((spec_tmEnd.f k a0 (wrap64 (a1 + 4))).bind fun t112 => (some t112)) else (some (-1))) else (none)) else (some (-1)))) else (none)) else (none)) else (if (bt a0 (ji74)) = 63 then (if 0 ≤ (wrap64 (a1 + 2)) then (if (wrap64 (a1 + 2)) < (a0.size : Int) then ((spec_tmName.f (bt a0 (wrap64 (a1 + 2)))).bind fun t113 => (if t113 = true then (if 0 ≤ (wrap64 (a1 + 3)) then (if (bt a0 (wrap64 (a1 + 3))) = 46 then ((spec_tmEnd.f k a0 (wrap64 (a1 + 4))).bind fun t114 => (some t114)) else (some (-1))) else (none)) else (some (-1)))) else (none)) else (none)) else (some (-1)))) else (none)) else (none)) = some r := by first | (rw [hji74] at H; exact H) | (simp only [hji74] at H ⊢; exact H)
            (try rw [hji74] at A71)
            have hji74w : (IntKind.i64.wrap (a1 + 1)) = ji74 := (i64_w _).trans hji74
            by_cases c75 : 0 ≤ (ji74)
            ·rw [if_pos c75] at H
             have c75b0 : decide (0 ≤ (ji74)) = true := decide_eq_true c75
             clear c75
             by_cases c76 : (ji74) < (a0.size : Int)
             ·rw [if_pos c76] at H
              have c76b0 : decide ((ji74) < (a0.size : Int)) = true := decide_eq_true c76
              clear c76
              by_cases c78 : (bt a0 (ji74)) = 33
              ·rw [if_pos c78] at H
               have c78b0 : ((bt a0 (ji74)) == 33) = true := beq_iff_eq.mpr c78
               have c78b1 : ((bt a0 (ji74)) != 33) = false := bne_eq_false_iff_eq.mpr c78
               clear c78
               obtain ⟨ji79, hji79⟩ : ∃ j_ : Int, (wrap64 (a1 + 2)) = j_ := ⟨_, rfl⟩
               replace H : (if 0 ≤ (ji79) then (if (ji79) < (a0.size : Int) then ((spec_tmName.f (bt a0 (ji79))).bind fun t111 => (if t111 = true then (if 0 ≤ (wrap64 (a1 + 3)) then (if (bt a0 (wrap64 (a1 + 3))) = 46 then ((spec_tmEnd.f k a0 (wrap64 (a1 + 4))).bind fun t112 => (some t112)) else (some (-1))) else (none)) else (some (-1)))) else (none)) else (none)) = some r := by first | (rw [hji79] at H; exact H) | (simp only [hji79] at H ⊢; exact H)
               (try rw [hji79] at A71)
               have hji79w : (IntKind.i64.wrap (a1 + 2)) = ji79 := (i64_w _).trans hji79
               by_cases c80 : 0 ≤ (ji79)
               ·rw [if_pos c80] at H
                have c80b0 : decide (0 ≤ (ji79)) = true := decide_eq_true c80
                clear c80
                by_cases c81 : (ji79) < (a0.size : Int)
                ·rw [if_pos c81] at H
                 have c81b0 : decide ((ji79) < (a0.size : Int)) = true := decide_eq_true c81
                 clear c81
                 replace H := Option.bind_eq_some_iff.mp H
                 obtain ⟨t111, A830, H⟩ := H
                 replace H : (if t111 = true then (if 0 ≤ (wrap64 (a1 + 3)) then (if (bt a0 (wrap64 (a1 + 3))) = 46 then ((spec_tmEnd.f k a0 (wrap64 (a1 + 4))).bind fun t112 => (some t112)) else (some (-1))) else (none)) else (some (-1))) = some r := H
                 have A83 := Aside0.mk A830
                 clear A830
                 by_cases c84 : t111 = true
                 ·subst c84
                  have H1 : (if 0 ≤ (wrap64 (a1 + 3)) then (if (bt a0 (wrap64 (a1 + 3))) = 46 then ((spec_tmEnd.f k a0 (wrap64 (a1 + 4))).bind fun t112 => (some t112)) else (some (-1))) else (none)) = some r := by rw [if_pos rfl] at H; exact H
                  clear H
                  have H := H1
                  clear H1
                  obtain ⟨ji85, hji85⟩ : ∃ j_ : Int, (wrap64 (a1 + 3)) = j_ := ⟨_, rfl⟩
                  replace H : (if 0 ≤ (ji85) then (if (bt a0 (ji85)) = 46 then ((spec_tmEnd.f k a0 (wrap64 (a1 + 4))).bind fun t112 => (some t112)) else (some (-1))) else (none)) = some r := by first | (rw [hji85] at H; exact H) | (simp only [hji85] at H ⊢; exact H)
                  (try rw [hji85] at c73b0)
                  (try rw [hji85] at A71)
                  (try rw [hji85] at A83)
                  have hji85w : (IntKind.i64.wrap (a1 + 3)) = ji85 := (i64_w _).trans hji85
                  by_cases c86 : 0 ≤ (ji85)
                  ·rw [if_pos c86] at H
                   have c86b0 : decide (0 ≤ (ji85)) = true := decide_eq_true c86
                   clear c86
                   by_cases c88 : (bt a0 (ji85)) = 46
                   ·rw [if_pos c88] at H
                    have c88b0 : ((bt a0 (ji85)) == 46) = true := beq_iff_eq.mpr c88
                    have c88b1 : ((bt a0 (ji85)) != 46) = false := bne_eq_false_iff_eq.mpr c88
                    clear c88
                    replace H := Option.bind_eq_some_iff.mp H
                    obtain ⟨t112, A890, H⟩ := H
                    replace H : (some t112) = some r := H
                    have A89 := Aside0.mk A890
                    clear A890
                    obtain rfl := Option.some.inj H
                    have p6 : 0 ≤ (a1 : Int) := of_decide_eq_true (by first | (with_reducible assumption) | assumption)
                    have q6 : a1 < (a0.size : Int) := of_decide_eq_true (by first | (with_reducible assumption) | assumption)
                    have hx6 := bt_at a0 a1
                    replace p6 := eq_true p6
                    replace q6 := eq_true q6
                    go_enter Tryz.func74, Tryz.ntmps74
                    go_wp2_with (first | ((with_reducible refine gate_callee (f := 96) rfl ?_); refine goesL_ (some 161) rfl rfl Tryz.func96 (by kernel_rfl) rfl #[.int .u8 (bt a0 a1)] rfl (by (try simp only [List.map_toArray, List.map_cons, List.map_nil]); first | done | rfl | (simp only [List.length_drop, List.length_take]; rfl)) ?_; (with_reducible refine (spec_tmName.calls (bt a0 a1) true _ A71.out).mono ?_); rintro e w' ⟨rfl, ⟨nd, rfl⟩⟩; refine ⟨_, rfl, ?_⟩; have p77 : 0 ≤ ((ji74) : Int) := of_decide_eq_true (by first | (with_reducible assumption) | assumption); have q77 : (ji74) < (a0.size : Int) := of_decide_eq_true (by first | (with_reducible assumption) | assumption); have hx77 := bt_at a0 (ji74); replace p77 := eq_true p77; replace q77 := eq_true q77; have p82 : 0 ≤ ((ji79) : Int) := of_decide_eq_true (by first | (with_reducible assumption) | assumption); have q82 : (ji79) < (a0.size : Int) := of_decide_eq_true (by first | (with_reducible assumption) | assumption); have hx82 := bt_at a0 (ji79); replace p82 := eq_true p82; replace q82 := eq_true q82) | (go_at_call 96; (with_reducible refine (spec_tmName.calls (bt a0 (ji79)) true _ A83.out).mono ?_); rintro e w' ⟨rfl, ⟨nd, rfl⟩⟩; have p87 : 0 ≤ ((ji85) : Int) := of_decide_eq_true (by first | (with_reducible assumption) | assumption); have q87 : (ji85) < (a0.size : Int) := of_decide_eq_true (by first | (with_reducible assumption) | assumption); have hx87 := bt_at a0 (ji85); replace p87 := eq_true p87; replace q87 := eq_true q87) | ((with_reducible refine gate_callee (f := 74) rfl ?_); refine goesL_ (some 198) rfl rfl Tryz.func74 (by kernel_rfl) rfl #[.string a0, .int .i64 (wrap64 (a1 + 4))] rfl (by (try simp only [List.map_toArray, List.map_cons, List.map_nil]); first | done | rfl | (simp only [List.length_drop, List.length_take]; rfl)) ?_; (with_reducible refine (ih k (by omega) a0 (wrap64 (a1 + 4)) t112 _ A89.out).mono ?_); rintro e w' ⟨rfl, ⟨nd, rfl⟩⟩; refine ⟨_, rfl, ?_⟩))
                    go_ret
                    exact ⟨by first | rfl | (simp; done) | (simp only [← hji74, ← hji79, ← hji85] <;> (first | rfl | simp)) | (simp [*]; done), by repeat (first | exact Drawn0.refl _ | apply Drawn0.step)⟩
                   ·rw [if_neg c88] at H
                    have c88b0 : ((bt a0 (ji85)) == 46) = false := beq_eq_false_iff_ne.mpr c88
                    have c88b1 : ((bt a0 (ji85)) != 46) = true := bne_iff_ne.mpr c88
                    obtain rfl := Option.some.inj H
                    have p6 : 0 ≤ (a1 : Int) := of_decide_eq_true (by first | (with_reducible assumption) | assumption)
                    have q6 : a1 < (a0.size : Int) := of_decide_eq_true (by first | (with_reducible assumption) | assumption)
                    have hx6 := bt_at a0 a1
                    replace p6 := eq_true p6
                    replace q6 := eq_true q6
                    go_enter Tryz.func74, Tryz.ntmps74
                    go_wp2_with (first | ((with_reducible refine gate_callee (f := 96) rfl ?_); refine goesL_ (some 161) rfl rfl Tryz.func96 (by kernel_rfl) rfl #[.int .u8 (bt a0 a1)] rfl (by (try simp only [List.map_toArray, List.map_cons, List.map_nil]); first | done | rfl | (simp only [List.length_drop, List.length_take]; rfl)) ?_; (with_reducible refine (spec_tmName.calls (bt a0 a1) true _ A71.out).mono ?_); rintro e w' ⟨rfl, ⟨nd, rfl⟩⟩; refine ⟨_, rfl, ?_⟩; have p77 : 0 ≤ ((ji74) : Int) := of_decide_eq_true (by first | (with_reducible assumption) | assumption); have q77 : (ji74) < (a0.size : Int) := of_decide_eq_true (by first | (with_reducible assumption) | assumption); have hx77 := bt_at a0 (ji74); replace p77 := eq_true p77; replace q77 := eq_true q77; have p82 : 0 ≤ ((ji79) : Int) := of_decide_eq_true (by first | (with_reducible assumption) | assumption); have q82 : (ji79) < (a0.size : Int) := of_decide_eq_true (by first | (with_reducible assumption) | assumption); have hx82 := bt_at a0 (ji79); replace p82 := eq_true p82; replace q82 := eq_true q82) | (go_at_call 96; (with_reducible refine (spec_tmName.calls (bt a0 (ji79)) true _ A83.out).mono ?_); rintro e w' ⟨rfl, ⟨nd, rfl⟩⟩; have p87 : 0 ≤ ((ji85) : Int) := of_decide_eq_true (by first | (with_reducible assumption) | assumption); have q87 : (ji85) < (a0.size : Int) := of_decide_eq_true (by first | (with_reducible assumption) | assumption); have hx87 := bt_at a0 (ji85); replace p87 := eq_true p87; replace q87 := eq_true q87))
                    go_ret
                    exact ⟨by first | rfl | (simp; done) | (simp only [← hji74, ← hji79, ← hji85] <;> (first | rfl | simp)) | (simp [*]; done), by repeat (first | exact Drawn0.refl _ | apply Drawn0.step)⟩
                  ·rw [if_neg c86] at H
                   exact absurd H (by simp)
                 ·replace c84 := Bool.eq_false_iff.mpr c84
                  subst c84
                  have H1 : (some (-1)) = some r := by rw [if_neg (show ¬ (false = true) by decide)] at H; exact H
                  clear H
                  have H := H1
                  clear H1
                  obtain rfl := Option.some.inj H
                  have p6 : 0 ≤ (a1 : Int) := of_decide_eq_true (by first | (with_reducible assumption) | assumption)
                  have q6 : a1 < (a0.size : Int) := of_decide_eq_true (by first | (with_reducible assumption) | assumption)
                  have hx6 := bt_at a0 a1
                  replace p6 := eq_true p6
                  replace q6 := eq_true q6
                  go_enter Tryz.func74, Tryz.ntmps74
                  go_wp2_with (first | ((with_reducible refine gate_callee (f := 96) rfl ?_); refine goesL_ (some 161) rfl rfl Tryz.func96 (by kernel_rfl) rfl #[.int .u8 (bt a0 a1)] rfl (by (try simp only [List.map_toArray, List.map_cons, List.map_nil]); first | done | rfl | (simp only [List.length_drop, List.length_take]; rfl)) ?_; (with_reducible refine (spec_tmName.calls (bt a0 a1) true _ A71.out).mono ?_); rintro e w' ⟨rfl, ⟨nd, rfl⟩⟩; refine ⟨_, rfl, ?_⟩; have p77 : 0 ≤ ((ji74) : Int) := of_decide_eq_true (by first | (with_reducible assumption) | assumption); have q77 : (ji74) < (a0.size : Int) := of_decide_eq_true (by first | (with_reducible assumption) | assumption); have hx77 := bt_at a0 (ji74); replace p77 := eq_true p77; replace q77 := eq_true q77; have p82 : 0 ≤ ((ji79) : Int) := of_decide_eq_true (by first | (with_reducible assumption) | assumption); have q82 : (ji79) < (a0.size : Int) := of_decide_eq_true (by first | (with_reducible assumption) | assumption); have hx82 := bt_at a0 (ji79); replace p82 := eq_true p82; replace q82 := eq_true q82) | (go_at_call 96; (with_reducible refine (spec_tmName.calls (bt a0 (ji79)) false _ A83.out).mono ?_); rintro e w' ⟨rfl, ⟨nd, rfl⟩⟩))
                  go_ret
                  exact ⟨by first | rfl | (simp; done) | (simp only [← hji74, ← hji79] <;> (first | rfl | simp)) | (simp [*]; done), by repeat (first | exact Drawn0.refl _ | apply Drawn0.step)⟩
                ·rw [if_neg c81] at H
                 exact absurd H (by simp)
               ·rw [if_neg c80] at H
                exact absurd H (by simp)
              ·rw [if_neg c78] at H
               have c78b0 : ((bt a0 (ji74)) == 33) = false := beq_eq_false_iff_ne.mpr c78
               have c78b1 : ((bt a0 (ji74)) != 33) = true := bne_iff_ne.mpr c78
               by_cases c91 : (bt a0 (ji74)) = 63
               ·rw [if_pos c91] at H
                have c91b0 : ((bt a0 (ji74)) == 63) = true := beq_iff_eq.mpr c91
                have c91b1 : ((bt a0 (ji74)) != 63) = false := bne_eq_false_iff_eq.mpr c91
                clear c91
                obtain ⟨ji92, hji92⟩ : ∃ j_ : Int, (wrap64 (a1 + 2)) = j_ := ⟨_, rfl⟩
                replace H : (if 0 ≤ (ji92) then (if (ji92) < (a0.size : Int) then ((spec_tmName.f (bt a0 (ji92))).bind fun t113 => (if t113 = true then (if 0 ≤ (wrap64 (a1 + 3)) then (if (bt a0 (wrap64 (a1 + 3))) = 46 then ((spec_tmEnd.f k a0 (wrap64 (a1 + 4))).bind fun t114 => (some t114)) else (some (-1))) else (none)) else (some (-1)))) else (none)) else (none)) = some r := by first | (rw [hji92] at H; exact H) | (simp only [hji92] at H ⊢; exact H)
                (try rw [hji92] at A71)
                have hji92w : (IntKind.i64.wrap (a1 + 2)) = ji92 := (i64_w _).trans hji92
                by_cases c93 : 0 ≤ (ji92)
                ·rw [if_pos c93] at H
                 have c93b0 : decide (0 ≤ (ji92)) = true := decide_eq_true c93
                 clear c93
                 by_cases c94 : (ji92) < (a0.size : Int)
                 ·rw [if_pos c94] at H
                  have c94b0 : decide ((ji92) < (a0.size : Int)) = true := decide_eq_true c94
                  clear c94
                  replace H := Option.bind_eq_some_iff.mp H
                  obtain ⟨t113, A960, H⟩ := H
                  replace H : (if t113 = true then (if 0 ≤ (wrap64 (a1 + 3)) then (if (bt a0 (wrap64 (a1 + 3))) = 46 then ((spec_tmEnd.f k a0 (wrap64 (a1 + 4))).bind fun t114 => (some t114)) else (some (-1))) else (none)) else (some (-1))) = some r := H
                  have A96 := Aside0.mk A960
                  clear A960
                  by_cases c97 : t113 = true
                  ·subst c97
                   have H1 : (if 0 ≤ (wrap64 (a1 + 3)) then (if (bt a0 (wrap64 (a1 + 3))) = 46 then ((spec_tmEnd.f k a0 (wrap64 (a1 + 4))).bind fun t114 => (some t114)) else (some (-1))) else (none)) = some r := by rw [if_pos rfl] at H; exact H
                   clear H
                   have H := H1
                   clear H1
                   obtain ⟨ji98, hji98⟩ : ∃ j_ : Int, (wrap64 (a1 + 3)) = j_ := ⟨_, rfl⟩
                   replace H : (if 0 ≤ (ji98) then (if (bt a0 (ji98)) = 46 then ((spec_tmEnd.f k a0 (wrap64 (a1 + 4))).bind fun t114 => (some t114)) else (some (-1))) else (none)) = some r := by first | (rw [hji98] at H; exact H) | (simp only [hji98] at H ⊢; exact H)
                   (try rw [hji98] at c73b0)
                   (try rw [hji98] at A71)
                   (try rw [hji98] at A96)
                   have hji98w : (IntKind.i64.wrap (a1 + 3)) = ji98 := (i64_w _).trans hji98
                   by_cases c99 : 0 ≤ (ji98)
                   ·rw [if_pos c99] at H
                    have c99b0 : decide (0 ≤ (ji98)) = true := decide_eq_true c99
                    clear c99
                    by_cases c101 : (bt a0 (ji98)) = 46
                    ·rw [if_pos c101] at H
                     have c101b0 : ((bt a0 (ji98)) == 46) = true := beq_iff_eq.mpr c101
                     have c101b1 : ((bt a0 (ji98)) != 46) = false := bne_eq_false_iff_eq.mpr c101
                     clear c101
                     replace H := Option.bind_eq_some_iff.mp H
                     obtain ⟨t114, A1020, H⟩ := H
                     replace H : (some t114) = some r := H
                     have A102 := Aside0.mk A1020
                     clear A1020
                     obtain rfl := Option.some.inj H
                     have p6 : 0 ≤ (a1 : Int) := of_decide_eq_true (by first | (with_reducible assumption) | assumption)
                     have q6 : a1 < (a0.size : Int) := of_decide_eq_true (by first | (with_reducible assumption) | assumption)
                     have hx6 := bt_at a0 a1
                     replace p6 := eq_true p6
                     replace q6 := eq_true q6
                     go_enter Tryz.func74, Tryz.ntmps74
                     go_wp2_with (first | ((with_reducible refine gate_callee (f := 96) rfl ?_); refine goesL_ (some 161) rfl rfl Tryz.func96 (by kernel_rfl) rfl #[.int .u8 (bt a0 a1)] rfl (by (try simp only [List.map_toArray, List.map_cons, List.map_nil]); first | done | rfl | (simp only [List.length_drop, List.length_take]; rfl)) ?_; (with_reducible refine (spec_tmName.calls (bt a0 a1) true _ A71.out).mono ?_); rintro e w' ⟨rfl, ⟨nd, rfl⟩⟩; refine ⟨_, rfl, ?_⟩; have p77 : 0 ≤ ((ji74) : Int) := of_decide_eq_true (by first | (with_reducible assumption) | assumption); have q77 : (ji74) < (a0.size : Int) := of_decide_eq_true (by first | (with_reducible assumption) | assumption); have hx77 := bt_at a0 (ji74); replace p77 := eq_true p77; replace q77 := eq_true q77; have p90 : 0 ≤ ((ji74) : Int) := of_decide_eq_true (by first | (with_reducible assumption) | assumption); have q90 : (ji74) < (a0.size : Int) := of_decide_eq_true (by first | (with_reducible assumption) | assumption); have hx90 := bt_at a0 (ji74); replace p90 := eq_true p90; replace q90 := eq_true q90; have p95 : 0 ≤ ((ji92) : Int) := of_decide_eq_true (by first | (with_reducible assumption) | assumption); have q95 : (ji92) < (a0.size : Int) := of_decide_eq_true (by first | (with_reducible assumption) | assumption); have hx95 := bt_at a0 (ji92); replace p95 := eq_true p95; replace q95 := eq_true q95) | (go_at_call 96; (with_reducible refine (spec_tmName.calls (bt a0 (ji92)) true _ A96.out).mono ?_); rintro e w' ⟨rfl, ⟨nd, rfl⟩⟩; have p100 : 0 ≤ ((ji98) : Int) := of_decide_eq_true (by first | (with_reducible assumption) | assumption); have q100 : (ji98) < (a0.size : Int) := of_decide_eq_true (by first | (with_reducible assumption) | assumption); have hx100 := bt_at a0 (ji98); replace p100 := eq_true p100; replace q100 := eq_true q100) | ((with_reducible refine gate_callee (f := 74) rfl ?_); refine goesL_ (some 198) rfl rfl Tryz.func74 (by kernel_rfl) rfl #[.string a0, .int .i64 (wrap64 (a1 + 4))] rfl (by (try simp only [List.map_toArray, List.map_cons, List.map_nil]); first | done | rfl | (simp only [List.length_drop, List.length_take]; rfl)) ?_; (with_reducible refine (ih k (by omega) a0 (wrap64 (a1 + 4)) t114 _ A102.out).mono ?_); rintro e w' ⟨rfl, ⟨nd, rfl⟩⟩; refine ⟨_, rfl, ?_⟩))
                     go_ret
                     exact ⟨by first | rfl | (simp; done) | (simp only [← hji74, ← hji92, ← hji98] <;> (first | rfl | simp)) | (simp [*]; done), by repeat (first | exact Drawn0.refl _ | apply Drawn0.step)⟩
                    ·rw [if_neg c101] at H
                     have c101b0 : ((bt a0 (ji98)) == 46) = false := beq_eq_false_iff_ne.mpr c101
                     have c101b1 : ((bt a0 (ji98)) != 46) = true := bne_iff_ne.mpr c101
                     obtain rfl := Option.some.inj H
                     have p6 : 0 ≤ (a1 : Int) := of_decide_eq_true (by first | (with_reducible assumption) | assumption)
                     have q6 : a1 < (a0.size : Int) := of_decide_eq_true (by first | (with_reducible assumption) | assumption)
                     have hx6 := bt_at a0 a1
                     replace p6 := eq_true p6
                     replace q6 := eq_true q6
                     go_enter Tryz.func74, Tryz.ntmps74
                     go_wp2_with (first | ((with_reducible refine gate_callee (f := 96) rfl ?_); refine goesL_ (some 161) rfl rfl Tryz.func96 (by kernel_rfl) rfl #[.int .u8 (bt a0 a1)] rfl (by (try simp only [List.map_toArray, List.map_cons, List.map_nil]); first | done | rfl | (simp only [List.length_drop, List.length_take]; rfl)) ?_; (with_reducible refine (spec_tmName.calls (bt a0 a1) true _ A71.out).mono ?_); rintro e w' ⟨rfl, ⟨nd, rfl⟩⟩; refine ⟨_, rfl, ?_⟩; have p77 : 0 ≤ ((ji74) : Int) := of_decide_eq_true (by first | (with_reducible assumption) | assumption); have q77 : (ji74) < (a0.size : Int) := of_decide_eq_true (by first | (with_reducible assumption) | assumption); have hx77 := bt_at a0 (ji74); replace p77 := eq_true p77; replace q77 := eq_true q77; have p90 : 0 ≤ ((ji74) : Int) := of_decide_eq_true (by first | (with_reducible assumption) | assumption); have q90 : (ji74) < (a0.size : Int) := of_decide_eq_true (by first | (with_reducible assumption) | assumption); have hx90 := bt_at a0 (ji74); replace p90 := eq_true p90; replace q90 := eq_true q90; have p95 : 0 ≤ ((ji92) : Int) := of_decide_eq_true (by first | (with_reducible assumption) | assumption); have q95 : (ji92) < (a0.size : Int) := of_decide_eq_true (by first | (with_reducible assumption) | assumption); have hx95 := bt_at a0 (ji92); replace p95 := eq_true p95; replace q95 := eq_true q95) | (go_at_call 96; (with_reducible refine (spec_tmName.calls (bt a0 (ji92)) true _ A96.out).mono ?_); rintro e w' ⟨rfl, ⟨nd, rfl⟩⟩; have p100 : 0 ≤ ((ji98) : Int) := of_decide_eq_true (by first | (with_reducible assumption) | assumption); have q100 : (ji98) < (a0.size : Int) := of_decide_eq_true (by first | (with_reducible assumption) | assumption); have hx100 := bt_at a0 (ji98); replace p100 := eq_true p100; replace q100 := eq_true q100))
                     go_ret
                     exact ⟨by first | rfl | (simp; done) | (simp only [← hji74, ← hji92, ← hji98] <;> (first | rfl | simp)) | (simp [*]; done), by repeat (first | exact Drawn0.refl _ | apply Drawn0.step)⟩
                   ·rw [if_neg c99] at H
                    exact absurd H (by simp)
                  ·replace c97 := Bool.eq_false_iff.mpr c97
                   subst c97
                   have H1 : (some (-1)) = some r := by rw [if_neg (show ¬ (false = true) by decide)] at H; exact H
                   clear H
                   have H := H1
                   clear H1
                   obtain rfl := Option.some.inj H
                   have p6 : 0 ≤ (a1 : Int) := of_decide_eq_true (by first | (with_reducible assumption) | assumption)
                   have q6 : a1 < (a0.size : Int) := of_decide_eq_true (by first | (with_reducible assumption) | assumption)
                   have hx6 := bt_at a0 a1
                   replace p6 := eq_true p6
                   replace q6 := eq_true q6
                   go_enter Tryz.func74, Tryz.ntmps74
                   go_wp2_with (first | ((with_reducible refine gate_callee (f := 96) rfl ?_); refine goesL_ (some 161) rfl rfl Tryz.func96 (by kernel_rfl) rfl #[.int .u8 (bt a0 a1)] rfl (by (try simp only [List.map_toArray, List.map_cons, List.map_nil]); first | done | rfl | (simp only [List.length_drop, List.length_take]; rfl)) ?_; (with_reducible refine (spec_tmName.calls (bt a0 a1) true _ A71.out).mono ?_); rintro e w' ⟨rfl, ⟨nd, rfl⟩⟩; refine ⟨_, rfl, ?_⟩; have p77 : 0 ≤ ((ji74) : Int) := of_decide_eq_true (by first | (with_reducible assumption) | assumption); have q77 : (ji74) < (a0.size : Int) := of_decide_eq_true (by first | (with_reducible assumption) | assumption); have hx77 := bt_at a0 (ji74); replace p77 := eq_true p77; replace q77 := eq_true q77; have p90 : 0 ≤ ((ji74) : Int) := of_decide_eq_true (by first | (with_reducible assumption) | assumption); have q90 : (ji74) < (a0.size : Int) := of_decide_eq_true (by first | (with_reducible assumption) | assumption); have hx90 := bt_at a0 (ji74); replace p90 := eq_true p90; replace q90 := eq_true q90; have p95 : 0 ≤ ((ji92) : Int) := of_decide_eq_true (by first | (with_reducible assumption) | assumption); have q95 : (ji92) < (a0.size : Int) := of_decide_eq_true (by first | (with_reducible assumption) | assumption); have hx95 := bt_at a0 (ji92); replace p95 := eq_true p95; replace q95 := eq_true q95) | (go_at_call 96; (with_reducible refine (spec_tmName.calls (bt a0 (ji92)) false _ A96.out).mono ?_); rintro e w' ⟨rfl, ⟨nd, rfl⟩⟩))
                   go_ret
                   exact ⟨by first | rfl | (simp; done) | (simp only [← hji74, ← hji92] <;> (first | rfl | simp)) | (simp [*]; done), by repeat (first | exact Drawn0.refl _ | apply Drawn0.step)⟩
                 ·rw [if_neg c94] at H
                  exact absurd H (by simp)
                ·rw [if_neg c93] at H
                 exact absurd H (by simp)
               ·rw [if_neg c91] at H
                have c91b0 : ((bt a0 (ji74)) == 63) = false := beq_eq_false_iff_ne.mpr c91
                have c91b1 : ((bt a0 (ji74)) != 63) = true := bne_iff_ne.mpr c91
                obtain rfl := Option.some.inj H
                have p6 : 0 ≤ (a1 : Int) := of_decide_eq_true (by first | (with_reducible assumption) | assumption)
                have q6 : a1 < (a0.size : Int) := of_decide_eq_true (by first | (with_reducible assumption) | assumption)
                have hx6 := bt_at a0 a1
                replace p6 := eq_true p6
                replace q6 := eq_true q6
                go_enter Tryz.func74, Tryz.ntmps74
                go_wp2_with (first | ((with_reducible refine gate_callee (f := 96) rfl ?_); refine goesL_ (some 161) rfl rfl Tryz.func96 (by kernel_rfl) rfl #[.int .u8 (bt a0 a1)] rfl (by (try simp only [List.map_toArray, List.map_cons, List.map_nil]); first | done | rfl | (simp only [List.length_drop, List.length_take]; rfl)) ?_; (with_reducible refine (spec_tmName.calls (bt a0 a1) true _ A71.out).mono ?_); rintro e w' ⟨rfl, ⟨nd, rfl⟩⟩; refine ⟨_, rfl, ?_⟩; have p77 : 0 ≤ ((ji74) : Int) := of_decide_eq_true (by first | (with_reducible assumption) | assumption); have q77 : (ji74) < (a0.size : Int) := of_decide_eq_true (by first | (with_reducible assumption) | assumption); have hx77 := bt_at a0 (ji74); replace p77 := eq_true p77; replace q77 := eq_true q77; have p90 : 0 ≤ ((ji74) : Int) := of_decide_eq_true (by first | (with_reducible assumption) | assumption); have q90 : (ji74) < (a0.size : Int) := of_decide_eq_true (by first | (with_reducible assumption) | assumption); have hx90 := bt_at a0 (ji74); replace p90 := eq_true p90; replace q90 := eq_true q90))
                go_ret
                exact ⟨by first | rfl | (simp; done) | (simp only [← hji74] <;> (first | rfl | simp)) | (simp [*]; done), by repeat (first | exact Drawn0.refl _ | apply Drawn0.step)⟩
             ·rw [if_neg c76] at H
              exact absurd H (by simp)
            ·rw [if_neg c75] at H
             exact absurd H (by simp)
           ·rw [if_neg c73] at H
            have c73b0 : decide ((wrap64 (a1 + 3)) < (a0.size : Int)) = false := decide_eq_false c73
            clear c73
            obtain rfl := Option.some.inj H
            have p6 : 0 ≤ (a1 : Int) := of_decide_eq_true (by first | (with_reducible assumption) | assumption)
            have q6 : a1 < (a0.size : Int) := of_decide_eq_true (by first | (with_reducible assumption) | assumption)
            have hx6 := bt_at a0 a1
            replace p6 := eq_true p6
            replace q6 := eq_true q6
            go_enter Tryz.func74, Tryz.ntmps74
            go_wp2_with (first | ((with_reducible refine gate_callee (f := 96) rfl ?_); refine goesL_ (some 161) rfl rfl Tryz.func96 (by kernel_rfl) rfl #[.int .u8 (bt a0 a1)] rfl (by (try simp only [List.map_toArray, List.map_cons, List.map_nil]); first | done | rfl | (simp only [List.length_drop, List.length_take]; rfl)) ?_; (with_reducible refine (spec_tmName.calls (bt a0 a1) true _ A71.out).mono ?_); rintro e w' ⟨rfl, ⟨nd, rfl⟩⟩; refine ⟨_, rfl, ?_⟩))
            go_ret
            exact ⟨by first | rfl | (simp; done) | (simp [*]; done), by repeat (first | exact Drawn0.refl _ | apply Drawn0.step)⟩
          ·replace c72 := Bool.eq_false_iff.mpr c72
           subst c72
           have H1 : (some (-1)) = some r := by rw [if_neg (show ¬ (false = true) by decide)] at H; exact H
           clear H
           have H := H1
           clear H1
           obtain rfl := Option.some.inj H
           have p6 : 0 ≤ (a1 : Int) := of_decide_eq_true (by first | (with_reducible assumption) | assumption)
           have q6 : a1 < (a0.size : Int) := of_decide_eq_true (by first | (with_reducible assumption) | assumption)
           have hx6 := bt_at a0 a1
           replace p6 := eq_true p6
           replace q6 := eq_true q6
           go_enter Tryz.func74, Tryz.ntmps74
           go_wp2_with (first | ((with_reducible refine gate_callee (f := 96) rfl ?_); refine goesL_ (some 161) rfl rfl Tryz.func96 (by kernel_rfl) rfl #[.int .u8 (bt a0 a1)] rfl (by (try simp only [List.map_toArray, List.map_cons, List.map_nil]); first | done | rfl | (simp only [List.length_drop, List.length_take]; rfl)) ?_; (with_reducible refine (spec_tmName.calls (bt a0 a1) false _ A71.out).mono ?_); rintro e w' ⟨rfl, ⟨nd, rfl⟩⟩; refine ⟨_, rfl, ?_⟩))
           go_ret
           exact ⟨by first | rfl | (simp; done) | (simp [*]; done), by repeat (first | exact Drawn0.refl _ | apply Drawn0.step)⟩
   ·rw [if_neg c5] at H
    exact absurd H (by simp)
  ·rw [if_neg c4] at H
   exact absurd H (by simp)

end Go.Proofs.YtjgfgjhaghbehaaGreat.PsoPlace
