-- PRINTED BY print.sh 35421559b90ae4d0a3588c463048766b98c2df88dd9212a6774a882060cdf62d: not written by this session
import Derived.Test.YteepgblpoddcfaaPDepthOfFormulax0
import Derived.Test.YteepgblpoddcfaaPDepthOfFormulax1
namespace Go.Proofs.Yteepgblpoddcfaa.PDepthOfFormula
open Go.RowKit Go.Proofs.YteepgblpoddcfaaW.PrintWords Go.Proofs.YteepgblpoddcfaaW.PrintLast Go.Proofs.YteepgblpoddcfaaW.PrintMore
attribute [local go_sem] max2_int min2_int max_two min_two max_three min_three max_four min_four   -- for this text's walks alone
set_option linter.unusedVariables false
set_option linter.unusedSimpArgs false

/-! ### spec_biEnd: function 59 -/
mutual
def spec_biEnd.j0 : Nat → ByteArray → Int → Bool → Option (Int)
  | 0, _, _, _ => none
  | k + 1, x0, x5, x44 => if x44 = true then (some (-1)) else ((spec_biEnd.f k x0 (wrap64 (x5 + 1))).bind fun t109 => (if t109 < 0 then (some (-1)) else (if t109 ≥ (x0.size : Int) then (some (-1)) else (if 0 ≤ t109 then (if t109 < (x0.size : Int) then (if (bt x0 t109) = 41 then (some (wrap64 (t109 + 1))) else (some (-1))) else (none)) else (none)))))
def spec_biEnd.l0 : Nat → ByteArray → Int → Int → Option (Int)
  | 0, _, _, _ => none
  | k + 1, x0, x1, x7 => if x7 ≤ 4 then (spec_biEnd.j2 k x0 x1 x7 (decide ((wrap64 ((wrap64 (x1 + 1)) + x7)) < (x0.size : Int)))) else (spec_biEnd.j2 k x0 x1 x7 false)
def spec_biEnd.j2 : Nat → ByteArray → Int → Int → Bool → Option (Int)
  | 0, _, _, _, _ => none
  | k + 1, x0, x1, x7, x77 => if x77 = true then (if 0 ≤ (wrap64 ((wrap64 (x1 + 1)) + x7)) then (if (wrap64 ((wrap64 (x1 + 1)) + x7)) < (x0.size : Int) then (if (bt x0 (wrap64 ((wrap64 (x1 + 1)) + x7))) = 62 then (if 0 ≤ (wrap64 (x1 + 1)) then (if (wrap64 (x1 + 1)) ≤ (wrap64 ((wrap64 (x1 + 1)) + x7)) then (if (wrap64 ((wrap64 (x1 + 1)) + x7)) ≤ (x0.size : Int) then ((spec_stLabel.f (x0.extract ((wrap64 (x1 + 1)) : Int).toNat ((wrap64 ((wrap64 (x1 + 1)) + x7)) : Int).toNat)).bind fun t110 => (if t110 = true then ((spec_biEnd.f k x0 (wrap64 ((wrap64 (x1 + 2)) + x7))).bind fun t111 => (some t111)) else (spec_biEnd.l0 k x0 x1 (wrap64 (x7 + 1))))) else (none)) else (none)) else (none)) else (spec_biEnd.l0 k x0 x1 (wrap64 (x7 + 1)))) else (none)) else (none)) else (some (-1))
def spec_biEnd.f : Nat → ByteArray → Int → Option (Int)
  | 0, _, _ => none
  | k + 1, a0, a1 => if a1 ≥ (a0.size : Int) then (some (-1)) else (if 0 ≤ a1 then (if a1 < (a0.size : Int) then (if (bt a0 a1) = 84 then (some (wrap64 (a1 + 1))) else (if (bt a0 a1) = 33 then ((spec_biEnd.f k a0 (wrap64 (a1 + 1))).bind fun t107 => (some t107)) else (if (bt a0 a1) = 40 then ((spec_biEnd.f k a0 (wrap64 (a1 + 1))).bind fun t108 => (if t108 < 0 then (spec_biEnd.j0 k a0 t108 true) else (if t108 ≥ (a0.size : Int) then (spec_biEnd.j0 k a0 t108 true) else (if 0 ≤ t108 then (if t108 < (a0.size : Int) then (spec_biEnd.j0 k a0 t108 ((bt a0 t108) != 38)) else (none)) else (none))))) else (if (bt a0 a1) = 60 then (spec_biEnd.l0 k a0 a1 1) else (some (-1)))))) else (none)) else (none))
end
theorem spec_biEnd.mono_l : ∀ k, (∀ y0 y1, LeO (spec_biEnd.f k y0 y1) (spec_biEnd.f (k + 1) y0 y1)) ∧ (∀ y0 y1 y2, LeO (spec_biEnd.j0 k y0 y1 y2) (spec_biEnd.j0 (k + 1) y0 y1 y2)) ∧ (∀ y0 y1 y2, LeO (spec_biEnd.l0 k y0 y1 y2) (spec_biEnd.l0 (k + 1) y0 y1 y2)) ∧ (∀ y0 y1 y2 y3, LeO (spec_biEnd.j2 k y0 y1 y2 y3) (spec_biEnd.j2 (k + 1) y0 y1 y2 y3))
  | 0 => ⟨fun _ _ r h => by simp [spec_biEnd.f] at h, fun _ _ _ r h => by simp [spec_biEnd.j0] at h, fun _ _ _ r h => by simp [spec_biEnd.l0] at h, fun _ _ _ _ r h => by simp [spec_biEnd.j2] at h⟩
  | k + 1 => by
    obtain ⟨ih0, ih1, ih2, ih3⟩ := spec_biEnd.mono_l k
    refine ⟨?_, ?_, ?_, ?_⟩
    · intro y0 y1
      unfold spec_biEnd.f
      repeat' first
      | (with_reducible exact ih0 _ _)
      | (with_reducible exact ih1 _ _ _)
      | (with_reducible exact ih2 _ _ _)
      | (with_reducible exact ih3 _ _ _ _)
      | (with_reducible exact LeO.refl _)
      | (with_reducible exact LeO.none _)
      | (with_reducible refine LeO.ite ?_ ?_)
      | (with_reducible refine LeO.bind ?_ (fun _ => ?_))
      | exact ih0 _ _
      | exact ih1 _ _ _
      | exact ih2 _ _ _
      | exact ih3 _ _ _ _
      | exact LeO.none _
      | refine LeO.ite ?_ ?_
      | refine LeO.bind ?_ (fun _ => ?_)
    · intro y0 y1 y2
      unfold spec_biEnd.j0
      repeat' first
      | (with_reducible exact ih0 _ _)
      | (with_reducible exact ih1 _ _ _)
      | (with_reducible exact ih2 _ _ _)
      | (with_reducible exact ih3 _ _ _ _)
      | (with_reducible exact LeO.refl _)
      | (with_reducible exact LeO.none _)
      | (with_reducible refine LeO.ite ?_ ?_)
      | (with_reducible refine LeO.bind ?_ (fun _ => ?_))
      | exact ih0 _ _
      | exact ih1 _ _ _
      | exact ih2 _ _ _
      | exact ih3 _ _ _ _
      | exact LeO.none _
      | refine LeO.ite ?_ ?_
      | refine LeO.bind ?_ (fun _ => ?_)
    · intro y0 y1 y2
      unfold spec_biEnd.l0
      repeat' first
      | (with_reducible exact ih0 _ _)
      | (with_reducible exact ih1 _ _ _)
      | (with_reducible exact ih2 _ _ _)
      | (with_reducible exact ih3 _ _ _ _)
      | (with_reducible exact LeO.refl _)
      | (with_reducible exact LeO.none _)
      | (with_reducible refine LeO.ite ?_ ?_)
      | (with_reducible refine LeO.bind ?_ (fun _ => ?_))
      | exact ih0 _ _
      | exact ih1 _ _ _
      | exact ih2 _ _ _
      | exact ih3 _ _ _ _
      | exact LeO.none _
      | refine LeO.ite ?_ ?_
      | refine LeO.bind ?_ (fun _ => ?_)
    · intro y0 y1 y2 y3
      unfold spec_biEnd.j2
      repeat' first
      | (with_reducible exact ih0 _ _)
      | (with_reducible exact ih1 _ _ _)
      | (with_reducible exact ih2 _ _ _)
      | (with_reducible exact ih3 _ _ _ _)
      | (with_reducible exact LeO.refl _)
      | (with_reducible exact LeO.none _)
      | (with_reducible refine LeO.ite ?_ ?_)
      | (with_reducible refine LeO.bind ?_ (fun _ => ?_))
      | exact ih0 _ _
      | exact ih1 _ _ _
      | exact ih2 _ _ _
      | exact ih3 _ _ _ _
      | exact LeO.none _
      | refine LeO.ite ?_ ?_
      | refine LeO.bind ?_ (fun _ => ?_)
theorem spec_biEnd.mono : ∀ a0 a1 k, LeO (spec_biEnd.f k a0 a1) (spec_biEnd.f (k + 1) a0 a1) := by
  intro a0 a1 k
  obtain ⟨ih0, ih1, ih2, ih3⟩ := spec_biEnd.mono_l k
  exact ih0 a0 a1
set_option maxHeartbeats 8000000 in
set_option maxRecDepth 100000 in
theorem spec_biEnd.calls (k : Nat) : ∀ (a0 : ByteArray) (a1 : Int) (r : Int) (w : World) (h : spec_biEnd.f k a0 a1 = some r),
    Calls Try.prog 59 #[.string a0, .int .i64 a1] w fun e w' => e = .returned (.int .i64 r) ∧ Drawn0 w w' := by
  induction k using Nat.strongRecOn with
  | _ k ih =>
  intro a0 a1 r w h
  cases k with
  | zero => exact absurd h (by simp [spec_biEnd.f])
  | succ k =>
  simp only [spec_biEnd.f] at h
  have H : (if a1 ≥ (a0.size : Int) then (some (-1)) else (if 0 ≤ a1 then (if a1 < (a0.size : Int) then (if (bt a0 a1) = 84 then (some (wrap64 (a1 + 1))) else (if (bt a0 a1) = 33 then ((spec_biEnd.f k a0 (wrap64 (a1 + 1))).bind fun t107 => (some t107)) else (if (bt a0 a1) = 40 then ((spec_biEnd.f k a0 (wrap64 (a1 + 1))).bind fun t108 => (if t108 < 0 then (spec_biEnd.j0 k a0 t108 true) else (if t108 ≥ (a0.size : Int) then (spec_biEnd.j0 k a0 t108 true) else (if 0 ≤ t108 then (if t108 < (a0.size : Int) then (spec_biEnd.j0 k a0 t108 ((bt a0 t108) != 38)) else (none)) else (none))))) else (if (bt a0 a1) = 60 then (spec_biEnd.l0 k a0 a1 1) else (some (-1)))))) else (none)) else (none))) = some r := h
  clear h
  by_cases c3 : a1 ≥ (a0.size : Int)
  · rw [if_pos c3] at H
    have c3b0 : decide ((a0.size : Int) ≤ a1) = true := decide_eq_true c3
    clear c3
    obtain rfl := Option.some.inj H
    go_enter Try.func59, Try.ntmps59
    go_wp2
    go_ret
    exact ⟨by first | rfl | (simp; done) | (simp [*]; done), by repeat (first | exact Drawn0.refl _ | apply Drawn0.step)⟩
  · rw [if_neg c3] at H
    have c3b0 : decide ((a0.size : Int) ≤ a1) = false := decide_eq_false c3
    clear c3
    by_cases c4 : 0 ≤ a1
    · rw [if_pos c4] at H
      have c4b0 : decide (0 ≤ a1) = true := decide_eq_true c4
      clear c4
      by_cases c5 : a1 < (a0.size : Int)
      · rw [if_pos c5] at H
        have c5b0 : decide (a1 < (a0.size : Int)) = true := decide_eq_true c5
        clear c5
        by_cases c7 : (bt a0 a1) = 84
        · rw [if_pos c7] at H
          have c7b0 : ((bt a0 a1) == 84) = true := beq_iff_eq.mpr c7
          have c7b1 : ((bt a0 a1) != 84) = false := bne_eq_false_iff_eq.mpr c7
          clear c7
          obtain rfl := Option.some.inj H
          have p6 : 0 ≤ (a1 : Int) := of_decide_eq_true (by first | (with_reducible assumption) | assumption)
          have q6 : a1 < (a0.size : Int) := of_decide_eq_true (by first | (with_reducible assumption) | assumption)
          have hx6 := bt_at a0 a1
          replace p6 := eq_true p6
          replace q6 := eq_true q6
          go_enter Try.func59, Try.ntmps59
          go_wp2
          go_ret
          exact ⟨by first | rfl | (simp; done) | (simp [*]; done), by repeat (first | exact Drawn0.refl _ | apply Drawn0.step)⟩
        · rw [if_neg c7] at H
          have c7b0 : ((bt a0 a1) == 84) = false := beq_eq_false_iff_ne.mpr c7
          have c7b1 : ((bt a0 a1) != 84) = true := bne_iff_ne.mpr c7
          by_cases c8 : (bt a0 a1) = 33
          · rw [if_pos c8] at H
            have c8b0 : ((bt a0 a1) == 33) = true := beq_iff_eq.mpr c8
            have c8b1 : ((bt a0 a1) != 33) = false := bne_eq_false_iff_eq.mpr c8
            clear c8
            replace H := Option.bind_eq_some_iff.mp H
            obtain ⟨t107, A90, H⟩ := H
            replace H : (some t107) = some r := H
            have A9 := Aside0.mk A90
            clear A90
            obtain rfl := Option.some.inj H
            have p6 : 0 ≤ (a1 : Int) := of_decide_eq_true (by first | (with_reducible assumption) | assumption)
            have q6 : a1 < (a0.size : Int) := of_decide_eq_true (by first | (with_reducible assumption) | assumption)
            have hx6 := bt_at a0 a1
            replace p6 := eq_true p6
            replace q6 := eq_true q6
            go_enter Try.func59, Try.ntmps59
            go_wp2_with (first | ((with_reducible refine gate_callee (f := 59) rfl ?_); refine goesL_ (some 24) rfl rfl Try.func59 (by kernel_rfl) rfl #[.string a0, .int .i64 (wrap64 (a1 + 1))] rfl (by (try simp only [List.map_toArray, List.map_cons, List.map_nil]); first | done | rfl | (simp only [List.length_drop, List.length_take]; rfl)) ?_; (with_reducible refine (ih k (by omega) a0 (wrap64 (a1 + 1)) t107 _ A9.out).mono ?_); rintro e w' ⟨rfl, ⟨nd, rfl⟩⟩; refine ⟨_, rfl, ?_⟩))
            go_ret
            exact ⟨by first | rfl | (simp; done) | (simp [*]; done), by repeat (first | exact Drawn0.refl _ | apply Drawn0.step)⟩
          · rw [if_neg c8] at H
            have c8b0 : ((bt a0 a1) == 33) = false := beq_eq_false_iff_ne.mpr c8
            have c8b1 : ((bt a0 a1) != 33) = true := bne_iff_ne.mpr c8
            by_cases c10 : (bt a0 a1) = 40
            · rw [if_pos c10] at H
              have c10b0 : ((bt a0 a1) == 40) = true := beq_iff_eq.mpr c10
              have c10b1 : ((bt a0 a1) != 40) = false := bne_eq_false_iff_eq.mpr c10
              clear c10
              replace H := Option.bind_eq_some_iff.mp H
              obtain ⟨t108, A110, H⟩ := H
              replace H : (if t108 < 0 then (spec_biEnd.j0 k a0 t108 true) else (if t108 ≥ (a0.size : Int) then (spec_biEnd.j0 k a0 t108 true) else (if 0 ≤ t108 then (if t108 < (a0.size : Int) then (spec_biEnd.j0 k a0 t108 ((bt a0 t108) != 38)) else (none)) else (none)))) = some r := H
              have A11 := Aside0.mk A110
              clear A110
              have HC12 := Aside0.mk H
              clear H
              have p6 : 0 ≤ (a1 : Int) := of_decide_eq_true (by first | (with_reducible assumption) | assumption)
              have q6 : a1 < (a0.size : Int) := of_decide_eq_true (by first | (with_reducible assumption) | assumption)
              have hx6 := bt_at a0 a1
              replace p6 := eq_true p6
              replace q6 := eq_true q6
              go_enter Try.func59, Try.ntmps59
              go_upto_region 10 with (first | ((with_reducible refine gate_callee (f := 59) rfl ?_); refine goesL_ (some 30) rfl rfl Try.func59 (by kernel_rfl) rfl #[.string a0, .int .i64 (wrap64 (a1 + 1))] rfl (by (try simp only [List.map_toArray, List.map_cons, List.map_nil]); first | done | rfl | (simp only [List.length_drop, List.length_take]; rfl)) ?_; (with_reducible refine (ih k (by omega) a0 (wrap64 (a1 + 1)) t108 _ A11.out).mono ?_); rintro e w' ⟨rfl, ⟨nd, rfl⟩⟩; refine ⟨_, rfl, ?_⟩))
              (try simp only [Act.put, List.setIfInBounds_toArray, List.set_cons_zero, List.set_cons_succ])
              go_cut [44] (fun v44 wc => ∃ (kq : Nat) (x44_11 : Bool), v44 = .bool x44_11 ∧ Aside0 (spec_biEnd.j0 kq a0 t108 x44_11 = some r) ∧ Aside0 (kq ≤ k) ∧ Drawn0 w wc)
              case first =>
                have H := HC12.out
                clear HC12
                by_cases c13 : t108 < 0
                · rw [if_pos c13] at H
                  have c13b0 : decide (t108 < 0) = true := decide_eq_true c13
                  clear c13
                  (first | rw [c13b0] | (simp only [i64_w, i32_w]; rw [c13b0]) | skip)
                  have H' := Aside0.mk H
                  clear H
                  go_wp2
                  go_meet
                  case rel => exact ⟨_, (true), (by first | rfl | (simp; done) | (simp [*]; done)), H', ⟨by first | omega | exact Nat.le_refl _⟩, by repeat (first | exact Drawn0.refl _ | apply Drawn0.step)⟩
                · rw [if_neg c13] at H
                  have c13b0 : decide (t108 < 0) = false := decide_eq_false c13
                  clear c13
                  (first | rw [c13b0] | (simp only [i64_w, i32_w]; rw [c13b0]) | skip)
                  by_cases c14 : t108 ≥ (a0.size : Int)
                  · rw [if_pos c14] at H
                    have c14b0 : decide ((a0.size : Int) ≤ t108) = true := decide_eq_true c14
                    clear c14
                    have H' := Aside0.mk H
                    clear H
                    go_wp2
                    go_meet
                    case rel => exact ⟨_, (true), (by first | rfl | (simp; done) | (simp [*]; done)), H', ⟨by first | omega | exact Nat.le_refl _⟩, by repeat (first | exact Drawn0.refl _ | apply Drawn0.step)⟩
                  · rw [if_neg c14] at H
                    have c14b0 : decide ((a0.size : Int) ≤ t108) = false := decide_eq_false c14
                    clear c14
                    by_cases c15 : 0 ≤ t108
                    · rw [if_pos c15] at H
                      have c15b0 : decide (0 ≤ t108) = true := decide_eq_true c15
                      clear c15
                      by_cases c16 : t108 < (a0.size : Int)
                      · rw [if_pos c16] at H
                        have c16b0 : decide (t108 < (a0.size : Int)) = true := decide_eq_true c16
                        clear c16
                        have H' := Aside0.mk H
                        clear H
                        have p17 : 0 ≤ (t108 : Int) := of_decide_eq_true (by first | (with_reducible assumption) | assumption)
                        have q17 : t108 < (a0.size : Int) := of_decide_eq_true (by first | (with_reducible assumption) | assumption)
                        have hx17 := bt_at a0 t108
                        replace p17 := eq_true p17
                        replace q17 := eq_true q17
                        go_wp2
                        go_meet
                        case rel => exact ⟨_, (((bt a0 t108) != 38)), (by first | rfl | (simp; done) | (simp [*]; done)), H', ⟨by first | omega | exact Nat.le_refl _⟩, by repeat (first | exact Drawn0.refl _ | apply Drawn0.step)⟩
                      · rw [if_neg c16] at H
                        exact absurd H (by simp)
                    · rw [if_neg c15] at H
                      exact absurd H (by simp)
              case rest =>
                clear HC12
                try clear c1
                try clear p1
                try clear q1
                try clear hx1
                try clear p2
                try clear c3
                try clear c3b0
                try clear c4
                try clear c4b0
                try clear c5
                try clear c5b0
                try clear p6
                try clear q6
                try clear hx6
                try clear c7
                try clear c7b0
                try clear c7b1
                try clear c8
                try clear c8b0
                try clear c8b1
                try clear c10
                try clear c10b0
                try clear c10b1
                try clear c13
                try clear c13b0
                try clear c14
                try clear c14b0
                try clear c15
                try clear c15b0
                try clear c16
                try clear c16b0
                try clear p17
                try clear q17
                try clear hx17
                try clear p17
                try clear p6
                try clear q17
                try clear q6
                obtain ⟨kq, x44_11, rfl, HA, HJ11, ⟨mc11, rfl⟩⟩ := hcut
                cases kq with
                | zero => exact absurd HA.out (by simp [spec_biEnd.j0])
                | succ kj11 =>
                  have H := HA.out
                  clear HA
                  simp only [spec_biEnd.j0] at H
                  by_cases c18 : x44_11 = true
                  · subst c18
                    have H1 : (some (-1)) = some r := by rw [if_pos rfl] at H; exact H
                    clear H
                    have H := H1
                    clear H1
                    obtain rfl := Option.some.inj H
                    go_wp2
                    go_ret
                    exact ⟨by first | rfl | (simp; done) | (simp [*]; done), by repeat (first | exact Drawn0.refl _ | apply Drawn0.step)⟩
                  · replace c18 := Bool.eq_false_iff.mpr c18
                    subst c18
                    have H1 : ((spec_biEnd.f kj11 a0 (wrap64 (t108 + 1))).bind fun t109 => (if t109 < 0 then (some (-1)) else (if t109 ≥ (a0.size : Int) then (some (-1)) else (if 0 ≤ t109 then (if t109 < (a0.size : Int) then (if (bt a0 t109) = 41 then (some (wrap64 (t109 + 1))) else (some (-1))) else (none)) else (none))))) = some r := by rw [if_neg (show ¬ (false = true) by decide)] at H; exact H
                    clear H
                    have H := H1
                    clear H1
                    replace H := Option.bind_eq_some_iff.mp H
                    obtain ⟨t109, A190, H⟩ := H
                    replace H : (if t109 < 0 then (some (-1)) else (if t109 ≥ (a0.size : Int) then (some (-1)) else (if 0 ≤ t109 then (if t109 < (a0.size : Int) then (if (bt a0 t109) = 41 then (some (wrap64 (t109 + 1))) else (some (-1))) else (none)) else (none)))) = some r := H
                    have A19 := Aside0.mk A190
                    clear A190
                    by_cases c20 : t109 < 0
                    · rw [if_pos c20] at H
                      have c20b0 : decide (t109 < 0) = true := decide_eq_true c20
                      clear c20
                      obtain rfl := Option.some.inj H
                      go_wp2_with (first | ((with_reducible refine gate_callee (f := 59) rfl ?_); refine goesL_ (some 48) rfl rfl Try.func59 (by kernel_rfl) rfl #[.string a0, .int .i64 (wrap64 (t108 + 1))] rfl (by (try simp only [List.map_toArray, List.map_cons, List.map_nil]); first | done | rfl | (simp only [List.length_drop, List.length_take]; rfl)) ?_; (with_reducible refine (ih kj11 (by have := HJ11.out; omega) a0 (wrap64 (t108 + 1)) t109 _ A19.out).mono ?_); rintro e w' ⟨rfl, ⟨nd, rfl⟩⟩; refine ⟨_, rfl, ?_⟩))
                      go_ret
                      exact ⟨by first | rfl | (simp; done) | (simp [*]; done), by repeat (first | exact Drawn0.refl _ | apply Drawn0.step)⟩
                    · rw [if_neg c20] at H
                      have c20b0 : decide (t109 < 0) = false := decide_eq_false c20
                      clear c20
                      by_cases c21 : t109 ≥ (a0.size : Int)
                      · rw [if_pos c21] at H
                        have c21b0 : decide ((a0.size : Int) ≤ t109) = true := decide_eq_true c21
                        clear c21
                        obtain rfl := Option.some.inj H
                        go_wp2_with (first | ((with_reducible refine gate_callee (f := 59) rfl ?_); refine goesL_ (some 48) rfl rfl Try.func59 (by kernel_rfl) rfl #[.string a0, .int .i64 (wrap64 (t108 + 1))] rfl (by (try simp only [List.map_toArray, List.map_cons, List.map_nil]); first | done | rfl | (simp only [List.length_drop, List.length_take]; rfl)) ?_; (with_reducible refine (ih kj11 (by have := HJ11.out; omega) a0 (wrap64 (t108 + 1)) t109 _ A19.out).mono ?_); rintro e w' ⟨rfl, ⟨nd, rfl⟩⟩; refine ⟨_, rfl, ?_⟩))
                        go_ret
                        exact ⟨by first | rfl | (simp; done) | (simp [*]; done), by repeat (first | exact Drawn0.refl _ | apply Drawn0.step)⟩
                      · rw [if_neg c21] at H
                        have c21b0 : decide ((a0.size : Int) ≤ t109) = false := decide_eq_false c21
                        clear c21
                        by_cases c22 : 0 ≤ t109
                        · rw [if_pos c22] at H
                          have c22b0 : decide (0 ≤ t109) = true := decide_eq_true c22
                          clear c22
                          by_cases c23 : t109 < (a0.size : Int)
                          · rw [if_pos c23] at H
                            have c23b0 : decide (t109 < (a0.size : Int)) = true := decide_eq_true c23
                            clear c23
                            by_cases c25 : (bt a0 t109) = 41
                            · rw [if_pos c25] at H
                              have c25b0 : ((bt a0 t109) == 41) = true := beq_iff_eq.mpr c25
                              have c25b1 : ((bt a0 t109) != 41) = false := bne_eq_false_iff_eq.mpr c25
                              clear c25
                              obtain rfl := Option.some.inj H
                              go_wp2_with (first | ((with_reducible refine gate_callee (f := 59) rfl ?_); refine goesL_ (some 48) rfl rfl Try.func59 (by kernel_rfl) rfl #[.string a0, .int .i64 (wrap64 (t108 + 1))] rfl (by (try simp only [List.map_toArray, List.map_cons, List.map_nil]); first | done | rfl | (simp only [List.length_drop, List.length_take]; rfl)) ?_; (with_reducible refine (ih kj11 (by have := HJ11.out; omega) a0 (wrap64 (t108 + 1)) t109 _ A19.out).mono ?_); rintro e w' ⟨rfl, ⟨nd, rfl⟩⟩; refine ⟨_, rfl, ?_⟩; have p24 : 0 ≤ (t109 : Int) := of_decide_eq_true (by first | (with_reducible assumption) | assumption); have q24 : t109 < (a0.size : Int) := of_decide_eq_true (by first | (with_reducible assumption) | assumption); have hx24 := bt_at a0 t109; replace p24 := eq_true p24; replace q24 := eq_true q24))
                              go_ret
                              exact ⟨by first | rfl | (simp; done) | (simp [*]; done), by repeat (first | exact Drawn0.refl _ | apply Drawn0.step)⟩
                            · rw [if_neg c25] at H
                              have c25b0 : ((bt a0 t109) == 41) = false := beq_eq_false_iff_ne.mpr c25
                              have c25b1 : ((bt a0 t109) != 41) = true := bne_iff_ne.mpr c25
                              obtain rfl := Option.some.inj H
                              go_wp2_with (first | ((with_reducible refine gate_callee (f := 59) rfl ?_); refine goesL_ (some 48) rfl rfl Try.func59 (by kernel_rfl) rfl #[.string a0, .int .i64 (wrap64 (t108 + 1))] rfl (by (try simp only [List.map_toArray, List.map_cons, List.map_nil]); first | done | rfl | (simp only [List.length_drop, List.length_take]; rfl)) ?_; (with_reducible refine (ih kj11 (by have := HJ11.out; omega) a0 (wrap64 (t108 + 1)) t109 _ A19.out).mono ?_); rintro e w' ⟨rfl, ⟨nd, rfl⟩⟩; refine ⟨_, rfl, ?_⟩; have p24 : 0 ≤ (t109 : Int) := of_decide_eq_true (by first | (with_reducible assumption) | assumption); have q24 : t109 < (a0.size : Int) := of_decide_eq_true (by first | (with_reducible assumption) | assumption); have hx24 := bt_at a0 t109; replace p24 := eq_true p24; replace q24 := eq_true q24))
                              go_ret
                              exact ⟨by first | rfl | (simp; done) | (simp [*]; done), by repeat (first | exact Drawn0.refl _ | apply Drawn0.step)⟩
                          · rw [if_neg c23] at H
                            exact absurd H (by simp)
                        · rw [if_neg c22] at H
                          exact absurd H (by simp)
            · rw [if_neg c10] at H
              have c10b0 : ((bt a0 a1) == 40) = false := beq_eq_false_iff_ne.mpr c10
              have c10b1 : ((bt a0 a1) != 40) = true := bne_iff_ne.mpr c10
              by_cases c26 : (bt a0 a1) = 60
              · rw [if_pos c26] at H
                have c26b0 : ((bt a0 a1) == 60) = true := beq_iff_eq.mpr c26
                have c26b1 : ((bt a0 a1) != 60) = false := bne_eq_false_iff_eq.mpr c26
                clear c26
                have H' := Aside0.mk H
                clear H
                have p6 : 0 ≤ (a1 : Int) := of_decide_eq_true (by first | (with_reducible assumption) | assumption)
                have q6 : a1 < (a0.size : Int) := of_decide_eq_true (by first | (with_reducible assumption) | assumption)
                have hx6 := bt_at a0 a1
                replace p6 := eq_true p6
                replace q6 := eq_true q6
                go_enter Try.func59, Try.ntmps59
                go_wp2
                go_loopg [7] k (fun kq v7 w' => ∃ (x7_1 : Int), v7 = .int .i64 x7_1 ∧ Aside0 (spec_biEnd.l0 kq a0 a1 x7_1 = some r) ∧ Aside0 (kq ≤ k) ∧ Drawn0 w w')
                case atStart => exact ⟨(1), (by first | rfl | (simp; done) | (simp [*]; done)), H', ⟨Nat.le_refl _⟩, by repeat (first | exact Drawn0.refl _ | apply Drawn0.step)⟩
                case round =>
                  clear H'
                  try clear c1
                  try clear p1
                  try clear q1
                  try clear hx1
                  try clear c2
                  try clear p2
                  try clear q2
                  try clear hx2
                  try clear c3
                  try clear c3b0
                  try clear c4
                  try clear c4b0
                  try clear c5
                  try clear c5b0
                  try clear p6
                  try clear q6
                  try clear hx6
                  try clear c7
                  try clear c7b0
                  try clear c7b1
                  try clear c8
                  try clear c8b0
                  try clear c8b1
                  try clear c10
                  try clear c10b0
                  try clear c10b1
                  try clear c11
                  try clear c13
                  try clear c13b0
                  try clear c14
                  try clear c14b0
                  try clear c15
                  try clear c15b0
                  try clear c16
                  try clear c16b0
                  try clear p17
                  try clear q17
                  try clear hx17
                  try clear c18
                  try clear c20
                  try clear c20b0
                  try clear c21
                  try clear c21b0
                  try clear c22
                  try clear c22b0
                  try clear c23
                  try clear c23b0
                  try clear p24
                  try clear q24
                  try clear hx24
                  try clear c25
                  try clear c25b0
                  try clear c25b1
                  try clear c26
                  try clear c26b0
                  try clear c26b1
                  try clear p1
                  try clear p17
                  try clear p2
                  try clear p24
                  try clear p6
                  try clear q1
                  try clear q17
                  try clear q24
                  try clear q6
                  obtain ⟨x7_1, rfl, HA, HK1, ⟨m1, rfl⟩⟩ := hrel
                  cases gk with
                  | zero => exact absurd HA.out (by simp [spec_biEnd.l0])
                  | succ k1 =>
                    have H := HA.out
                    clear HA
                    simp only [spec_biEnd.l0] at H
                    have HC27 := Aside0.mk H
                    clear H
                    go_upto_region 18 with (fail)
                    go_cut [77] (fun v77 wc => ∃ (kq : Nat) (x77_26 : Bool), v77 = .bool x77_26 ∧ Aside0 (spec_biEnd.j2 kq a0 a1 x7_1 x77_26 = some r) ∧ Aside0 (kq ≤ k1) ∧ Drawn0 w wc)
                    case first =>
                      have H := HC27.out
                      clear HC27
                      by_cases c28 : x7_1 ≤ 4
                      · rw [if_pos c28] at H
                        have c28b0 : decide (x7_1 ≤ 4) = true := decide_eq_true c28
                        clear c28
                        (first | rw [c28b0] | (simp only [i64_w, i32_w]; rw [c28b0]) | skip)
                        have H' := Aside0.mk H
                        clear H
                        go_wp2
                        go_meet
                        case rel => exact ⟨_, (decide ((wrap64 ((wrap64 (a1 + 1)) + x7_1)) < (a0.size : Int))), (by first | rfl | (simp; done) | (simp [*]; done)), H', ⟨by have := HK1.out; first | omega | exact Nat.le_refl _⟩, by repeat (first | exact Drawn0.refl _ | apply Drawn0.step)⟩
                      · rw [if_neg c28] at H
                        have c28b0 : decide (x7_1 ≤ 4) = false := decide_eq_false c28
                        clear c28
                        (first | rw [c28b0] | (simp only [i64_w, i32_w]; rw [c28b0]) | skip)
                        have H' := Aside0.mk H
                        clear H
                        go_wp2
                        go_meet
                        case rel => exact ⟨_, (false), (by first | rfl | (simp; done) | (simp [*]; done)), H', ⟨by have := HK1.out; first | omega | exact Nat.le_refl _⟩, by repeat (first | exact Drawn0.refl _ | apply Drawn0.step)⟩
                    case rest =>
                      clear HC27
                      try clear c1
                      try clear p1
                      try clear q1
                      try clear hx1
                      try clear c2
                      try clear p2
                      try clear q2
                      try clear hx2
                      try clear c3
                      try clear c3b0
                      try clear c4
                      try clear c4b0
                      try clear c5
                      try clear c5b0
                      try clear p6
                      try clear q6
                      try clear hx6
                      try clear c7
                      try clear c7b0
                      try clear c7b1
                      try clear c8
                      try clear c8b0
                      try clear c8b1
                      try clear c10
                      try clear c10b0
                      try clear c10b1
                      try clear c11
                      try clear c13
                      try clear c13b0
                      try clear c14
                      try clear c14b0
                      try clear c15
                      try clear c15b0
                      try clear c16
                      try clear c16b0
                      try clear p17
                      try clear q17
                      try clear hx17
                      try clear c18
                      try clear c20
                      try clear c20b0
                      try clear c21
                      try clear c21b0
                      try clear c22
                      try clear c22b0
                      try clear c23
                      try clear c23b0
                      try clear p24
                      try clear q24
                      try clear hx24
                      try clear c25
                      try clear c25b0
                      try clear c25b1
                      try clear c26
                      try clear c26b0
                      try clear c26b1
                      try clear c28
                      try clear c28b0
                      try clear p1
                      try clear p17
                      try clear p2
                      try clear p24
                      try clear p6
                      try clear q1
                      try clear q17
                      try clear q2
                      try clear q24
                      try clear q6
                      obtain ⟨kq, x77_26, rfl, HA, HJ26, ⟨mc26, rfl⟩⟩ := hcut
                      cases kq with
                      | zero => exact absurd HA.out (by simp [spec_biEnd.j2])
                      | succ kj26 =>
                        have H := HA.out
                        clear HA
                        simp only [spec_biEnd.j2] at H
                        by_cases c29 : x77_26 = true
                        · subst c29
                          have H1 : (if 0 ≤ (wrap64 ((wrap64 (a1 + 1)) + x7_1)) then (if (wrap64 ((wrap64 (a1 + 1)) + x7_1)) < (a0.size : Int) then (if (bt a0 (wrap64 ((wrap64 (a1 + 1)) + x7_1))) = 62 then (if 0 ≤ (wrap64 (a1 + 1)) then (if (wrap64 (a1 + 1)) ≤ (wrap64 ((wrap64 (a1 + 1)) + x7_1)) then (if (wrap64 ((wrap64 (a1 + 1)) + x7_1)) ≤ (a0.size : Int) then ((spec_stLabel.f (a0.extract ((wrap64 (a1 + 1)) : Int).toNat ((wrap64 ((wrap64 (a1 + 1)) + x7_1)) : Int).toNat)).bind fun t110 => (if t110 = true then ((spec_biEnd.f kj26 a0 (wrap64 ((wrap64 (a1 + 2)) + x7_1))).bind fun t111 => (some t111)) else (spec_biEnd.l0 kj26 a0 a1 (wrap64 (x7_1 + 1))))) else (none)) else (none)) else (none)) else (spec_biEnd.l0 kj26 a0 a1 (wrap64 (x7_1 + 1)))) else (none)) else (none)) = some r := by rw [if_pos rfl] at H; exact H
                          clear H
                          have H := H1
                          clear H1
                          obtain ⟨ji30, hji30⟩ : ∃ j_ : Int, (wrap64 ((wrap64 (a1 + 1)) + x7_1)) = j_ := ⟨_, rfl⟩
                          replace H : (if 0 ≤ (ji30) then (if (ji30) < (a0.size : Int) then (if (bt a0 (ji30)) = 62 then (if 0 ≤ (wrap64 (a1 + 1)) then (if (wrap64 (a1 + 1)) ≤ (ji30) then (if (ji30) ≤ (a0.size : Int) then ((spec_stLabel.f (a0.extract ((wrap64 (a1 + 1)) : Int).toNat ((ji30) : Int).toNat)).bind fun t110 => (if t110 = true then ((spec_biEnd.f kj26 a0 (wrap64 ((wrap64 (a1 + 2)) + x7_1))).bind fun t111 => (some t111)) else (spec_biEnd.l0 kj26 a0 a1 (wrap64 (x7_1 + 1))))) else (none)) else (none)) else (none)) else (spec_biEnd.l0 kj26 a0 a1 (wrap64 (x7_1 + 1)))) else (none)) else (none)) = some r := by first | (rw [hji30] at H; exact H) | (simp only [hji30] at H ⊢; exact H)
                          have hji30w : (IntKind.i64.wrap ((wrap64 (a1 + 1)) + x7_1)) = ji30 := (i64_w _).trans hji30
                          by_cases c31 : 0 ≤ (ji30)
                          · rw [if_pos c31] at H
                            have c31b0 : decide (0 ≤ (ji30)) = true := decide_eq_true c31
                            clear c31
                            by_cases c32 : (ji30) < (a0.size : Int)
                            · rw [if_pos c32] at H
                              have c32b0 : decide ((ji30) < (a0.size : Int)) = true := decide_eq_true c32
                              clear c32
                              by_cases c34 : (bt a0 (ji30)) = 62
                              · rw [if_pos c34] at H
                                have c34b0 : ((bt a0 (ji30)) == 62) = true := beq_iff_eq.mpr c34
                                have c34b1 : ((bt a0 (ji30)) != 62) = false := bne_eq_false_iff_eq.mpr c34
                                clear c34
                                obtain ⟨ji35, hji35⟩ : ∃ j_ : Int, (wrap64 (a1 + 1)) = j_ := ⟨_, rfl⟩
                                replace H : (if 0 ≤ (ji35) then (if (ji35) ≤ (ji30) then (if (ji30) ≤ (a0.size : Int) then ((spec_stLabel.f (a0.extract ((ji35) : Int).toNat ((ji30) : Int).toNat)).bind fun t110 => (if t110 = true then ((spec_biEnd.f kj26 a0 (wrap64 ((wrap64 (a1 + 2)) + x7_1))).bind fun t111 => (some t111)) else (spec_biEnd.l0 kj26 a0 a1 (wrap64 (x7_1 + 1))))) else (none)) else (none)) else (none)) = some r := by first | (rw [hji35] at H; exact H) | (simp only [hji35] at H ⊢; exact H)
                                have hji35w : (IntKind.i64.wrap (a1 + 1)) = ji35 := (i64_w _).trans hji35
                                have hji30bhji35 : (wrap64 (ji35 + x7_1)) = ji30 := by rw [← hji35]; exact hji30
                                have hji30chji35 : (IntKind.i64.wrap (ji35 + x7_1)) = ji30 := (i64_w _).trans hji30bhji35
                                by_cases c36 : 0 ≤ (ji35)
                                · rw [if_pos c36] at H
                                  have c36b0 := eq_true c36
                                  have c36b1 : decide (0 ≤ (ji35)) = true := decide_eq_true c36
                                  clear c36
                                  by_cases c37 : (ji35) ≤ (ji30)
                                  · rw [if_pos c37] at H
                                    have c37b0 := eq_true c37
                                    have c37b1 : decide ((ji35) ≤ (ji30)) = true := decide_eq_true c37
                                    clear c37
                                    by_cases c38 : (ji30) ≤ (a0.size : Int)
                                    · rw [if_pos c38] at H
                                      have c38b0 := eq_true c38
                                      have c38b1 : decide ((ji30) ≤ (a0.size : Int)) = true := decide_eq_true c38
                                      clear c38
                                      replace H := Option.bind_eq_some_iff.mp H
                                      obtain ⟨t110, A390, H⟩ := H
                                      replace H : (if t110 = true then ((spec_biEnd.f kj26 a0 (wrap64 ((wrap64 (a1 + 2)) + x7_1))).bind fun t111 => (some t111)) else (spec_biEnd.l0 kj26 a0 a1 (wrap64 (x7_1 + 1)))) = some r := H
                                      have A39 := Aside0.mk A390
                                      clear A390
                                      by_cases c40 : t110 = true
                                      · subst c40
                                        have H1 : ((spec_biEnd.f kj26 a0 (wrap64 ((wrap64 (a1 + 2)) + x7_1))).bind fun t111 => (some t111)) = some r := by rw [if_pos rfl] at H; exact H
                                        clear H
                                        have H := H1
                                        clear H1
                                        replace H := Option.bind_eq_some_iff.mp H
                                        obtain ⟨t111, A410, H⟩ := H
                                        replace H : (some t111) = some r := H
                                        have A41 := Aside0.mk A410
                                        clear A410
                                        obtain rfl := Option.some.inj H
                                        have p33 : 0 ≤ ((ji30) : Int) := of_decide_eq_true (by first | (with_reducible assumption) | assumption)
                                        have q33 : (ji30) < (a0.size : Int) := of_decide_eq_true (by first | (with_reducible assumption) | assumption)
                                        have hx33 := bt_at a0 (ji30)
                                        replace p33 := eq_true p33
                                        replace q33 := eq_true q33
                                        go_wp2_with (first | (go_at_call 37; (with_reducible refine (spec_stLabel.calls (a0.extract ((ji35) : Int).toNat ((ji30) : Int).toNat) true _ A39.out).mono ?_); rintro e w' ⟨rfl, ⟨nd, rfl⟩⟩) | ((with_reducible refine gate_callee (f := 59) rfl ?_); refine goesL_ (some 103) rfl rfl Try.func59 (by kernel_rfl) rfl #[.string a0, .int .i64 (wrap64 ((wrap64 (a1 + 2)) + x7_1))] rfl (by (try simp only [List.map_toArray, List.map_cons, List.map_nil]); first | done | rfl | (simp only [List.length_drop, List.length_take]; rfl)) ?_; (with_reducible refine (ih kj26 (by have := HK1.out; have := HJ26.out; omega) a0 (wrap64 ((wrap64 (a1 + 2)) + x7_1)) t111 _ A41.out).mono ?_); rintro e w' ⟨rfl, ⟨nd, rfl⟩⟩; refine ⟨_, rfl, ?_⟩))
                                        go_ret
                                        exact ⟨by first | rfl | (simp; done) | (simp only [← hji30, ← hji35] <;> (first | rfl | simp)) | (simp [*]; done), by repeat (first | exact Drawn0.refl _ | apply Drawn0.step)⟩
                                      · replace c40 := Bool.eq_false_iff.mpr c40
                                        subst c40
                                        have H1 : (spec_biEnd.l0 kj26 a0 a1 (wrap64 (x7_1 + 1))) = some r := by rw [if_neg (show ¬ (false = true) by decide)] at H; exact H
                                        clear H
                                        have H := H1
                                        clear H1
                                        have H' := Aside0.mk H
                                        clear H
                                        have p33 : 0 ≤ ((ji30) : Int) := of_decide_eq_true (by first | (with_reducible assumption) | assumption)
                                        have q33 : (ji30) < (a0.size : Int) := of_decide_eq_true (by first | (with_reducible assumption) | assumption)
                                        have hx33 := bt_at a0 (ji30)
                                        replace p33 := eq_true p33
                                        replace q33 := eq_true q33
                                        go_wp2_with (first | (go_at_call 37; (with_reducible refine (spec_stLabel.calls (a0.extract ((ji35) : Int).toNat ((ji30) : Int).toNat) false _ A39.out).mono ?_); rintro e w' ⟨rfl, ⟨nd, rfl⟩⟩))
                                        go_roundg kj26
                                        case measure => have := HK1.out; have := HJ26.out; omega
                                        case rel => exact ⟨(wrap64 (x7_1 + 1)), (by first | rfl | (simp; done) | (simp [*]; done)), H', ⟨by have := HK1.out; have := HJ26.out; omega⟩, by repeat (first | exact Drawn0.refl _ | apply Drawn0.step)⟩
                                    · rw [if_neg c38] at H
                                      exact absurd H (by simp)
                                  · rw [if_neg c37] at H
                                    exact absurd H (by simp)
                                · rw [if_neg c36] at H
                                  exact absurd H (by simp)
                              · rw [if_neg c34] at H
                                have c34b0 : ((bt a0 (ji30)) == 62) = false := beq_eq_false_iff_ne.mpr c34
                                have c34b1 : ((bt a0 (ji30)) != 62) = true := bne_iff_ne.mpr c34
                                have H' := Aside0.mk H
                                clear H
                                have p33 : 0 ≤ ((ji30) : Int) := of_decide_eq_true (by first | (with_reducible assumption) | assumption)
                                have q33 : (ji30) < (a0.size : Int) := of_decide_eq_true (by first | (with_reducible assumption) | assumption)
                                have hx33 := bt_at a0 (ji30)
                                replace p33 := eq_true p33
                                replace q33 := eq_true q33
                                go_wp2
                                go_roundg kj26
                                case measure => have := HK1.out; have := HJ26.out; omega
                                case rel => exact ⟨(wrap64 (x7_1 + 1)), (by first | rfl | (simp; done) | (simp [*]; done)), H', ⟨by have := HK1.out; have := HJ26.out; omega⟩, by repeat (first | exact Drawn0.refl _ | apply Drawn0.step)⟩
                            · rw [if_neg c32] at H
                              exact absurd H (by simp)
                          · rw [if_neg c31] at H
                            exact absurd H (by simp)
                        · replace c29 := Bool.eq_false_iff.mpr c29
                          subst c29
                          have H1 : (some (-1)) = some r := by rw [if_neg (show ¬ (false = true) by decide)] at H; exact H
                          clear H
                          have H := H1
                          clear H1
                          obtain rfl := Option.some.inj H
                          go_wp2
                          go_ret
                          exact ⟨by first | rfl | (simp; done) | (simp [*]; done), by repeat (first | exact Drawn0.refl _ | apply Drawn0.step)⟩
              · rw [if_neg c26] at H
                have c26b0 : ((bt a0 a1) == 60) = false := beq_eq_false_iff_ne.mpr c26
                have c26b1 : ((bt a0 a1) != 60) = true := bne_iff_ne.mpr c26
                obtain rfl := Option.some.inj H
                have p6 : 0 ≤ (a1 : Int) := of_decide_eq_true (by first | (with_reducible assumption) | assumption)
                have q6 : a1 < (a0.size : Int) := of_decide_eq_true (by first | (with_reducible assumption) | assumption)
                have hx6 := bt_at a0 a1
                replace p6 := eq_true p6
                replace q6 := eq_true q6
                go_enter Try.func59, Try.ntmps59
                go_wp2
                go_ret
                exact ⟨by first | rfl | (simp; done) | (simp [*]; done), by repeat (first | exact Drawn0.refl _ | apply Drawn0.step)⟩
      · rw [if_neg c5] at H
        exact absurd H (by simp)
    · rw [if_neg c4] at H
      exact absurd H (by simp)

/-! ### spec_biIs: function 46 -/
def spec_biIs.f (k : Nat) (a0 : ByteArray) : Option (Bool) := if (a0.size : Int) ≤ 400 then ((spec_biEnd.f k a0 0).bind fun t112 => (some (t112 == (a0.size : Int)))) else (some false)
theorem spec_biIs.mono : ∀ a0 k, LeO (spec_biIs.f k a0) (spec_biIs.f (k + 1) a0) := by
  intro a0 k
  unfold spec_biIs.f
  repeat' first
      | (with_reducible exact spec_biEnd.mono _ _ _)
      | (with_reducible exact LeO.refl _)
      | (with_reducible exact LeO.none _)
      | (with_reducible refine LeO.ite ?_ ?_)
      | (with_reducible refine LeO.bind ?_ (fun _ => ?_))
      | exact spec_biEnd.mono _ _ _
      | exact LeO.none _
      | refine LeO.ite ?_ ?_
      | refine LeO.bind ?_ (fun _ => ?_)
set_option maxHeartbeats 8000000 in
set_option maxRecDepth 100000 in
theorem spec_biIs.calls (k : Nat) (a0 : ByteArray) (r : Bool) (w : World) (h : spec_biIs.f k a0 = some r) :
    Calls Try.prog 46 #[.string a0] w fun e w' => e = .returned (.bool r) ∧ Drawn0 w w' := by
  have H : (if (a0.size : Int) ≤ 400 then ((spec_biEnd.f k a0 0).bind fun t112 => (some (t112 == (a0.size : Int)))) else (some false)) = some r := h
  clear h
  by_cases c2 : (a0.size : Int) ≤ 400
  · rw [if_pos c2] at H
    have c2b0 : decide ((a0.size : Int) ≤ 400) = true := decide_eq_true c2
    have c2b1 : decide (a0.size ≤ 400) = true := decide_eq_true (by omega)
    clear c2
    replace H := Option.bind_eq_some_iff.mp H
    obtain ⟨t112, A30, H⟩ := H
    replace H : (some (t112 == (a0.size : Int))) = some r := H
    have A3 := Aside0.mk A30
    clear A30
    obtain rfl := Option.some.inj H
    go_enter Try.func46, Try.ntmps46
    go_wp2_with (first | (go_at_call 59; (with_reducible refine (spec_biEnd.calls k a0 0 t112 _ A3.out).mono ?_); rintro e w' ⟨rfl, ⟨nd, rfl⟩⟩))
    go_ret
    exact ⟨by first | rfl | (simp; done) | (simp [*]; done), by repeat (first | exact Drawn0.refl _ | apply Drawn0.step)⟩
  · rw [if_neg c2] at H
    have c2b0 : decide ((a0.size : Int) ≤ 400) = false := decide_eq_false c2
    have c2b1 : decide (a0.size ≤ 400) = false := decide_eq_false (by omega)
    clear c2
    obtain rfl := Option.some.inj H
    go_enter Try.func46, Try.ntmps46
    go_wp2
    go_ret
    exact ⟨by first | rfl | (simp; done) | (simp [*]; done), by repeat (first | exact Drawn0.refl _ | apply Drawn0.step)⟩

end Go.Proofs.Yteepgblpoddcfaa.PDepthOfFormula
