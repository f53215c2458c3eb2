-- PRINTED BY print.sh 35421559b90ae4d0a3588c463048766b98c2df88dd9212a6774a882060cdf62d: not written by this session
import Derived.Test.YteepgblpoddcfaaPDepthOfFormulax0
namespace Go.Proofs.Yteepgblpoddcfaa.PDepthOfFormula
open Go.RowKit Go.Proofs.YteepgblpoddcfaaW.PrintWords Go.Proofs.YteepgblpoddcfaaW.PrintLast Go.Proofs.YteepgblpoddcfaaW.PrintMore
attribute [local go_sem] max2_int min2_int max_two min_two max_three min_three max_four min_four   -- for this text's walks alone
set_option linter.unusedVariables false
set_option linter.unusedSimpArgs false

/-! ### spec_tmOne: function 43 -/
def spec_tmOne.f (a0 : ByteArray) : Option (Bool) := if (a0.size : Int) = 1 then (if 0 < (a0.size : Int) then (if (bt a0 0) ≥ 97 then (some (decide ((bt a0 0) ≤ 122))) else (some false)) else (none)) else (some false)
set_option maxHeartbeats 8000000 in
set_option maxRecDepth 100000 in
theorem spec_tmOne.calls (a0 : ByteArray) (r : Bool) (w : World) (h : spec_tmOne.f a0 = some r) :
    Calls Try.prog 43 #[.string a0] w fun e w' => e = .returned (.bool r) ∧ Drawn0 w w' := by
  have H : (if (a0.size : Int) = 1 then (if 0 < (a0.size : Int) then (if (bt a0 0) ≥ 97 then (some (decide ((bt a0 0) ≤ 122))) else (some false)) else (none)) else (some false)) = some r := h
  clear h
  by_cases c2 : (a0.size : Int) = 1
  · rw [if_pos c2] at H
    have c2b0 : ((a0.size : Int) == 1) = true := beq_iff_eq.mpr c2
    have c2b1 : ((a0.size : Int) != 1) = false := bne_eq_false_iff_eq.mpr c2
    clear c2
    by_cases c3 : 0 < (a0.size : Int)
    · rw [if_pos c3] at H
      have c3b0 : decide (0 < (a0.size : Int)) = true := decide_eq_true c3
      have c3b1 : decide (0 < a0.size) = true := decide_eq_true (by omega)
      clear c3
      by_cases c5 : (bt a0 0) ≥ 97
      · rw [if_pos c5] at H
        have c5b0 : decide (97 ≤ (bt a0 0)) = true := decide_eq_true c5
        clear c5
        obtain rfl := Option.some.inj H
        have p4 : 0 ≤ (0 : Int) := (by omega)
        have q4 : 0 < a0.size := (by have : (0 : Int) < (a0.size : Int) := of_decide_eq_true (by first | (with_reducible assumption) | assumption); omega)
        have hx4 : ∀ h : 0 < a0.size, ((a0[0]'h).toNat : Int) = bt a0 0 := bt_at a0 0
        clear p4
        have qi4 : (0 < (a0.size : Int)) = True := eq_true (of_decide_eq_true (by first | (with_reducible assumption) | assumption))
        replace q4 := eq_true q4
        have p6 : 0 ≤ (0 : Int) := (by omega)
        have q6 : 0 < a0.size := (by have : (0 : Int) < (a0.size : Int) := of_decide_eq_true (by first | (with_reducible assumption) | assumption); omega)
        have hx6 : ∀ h : 0 < a0.size, ((a0[0]'h).toNat : Int) = bt a0 0 := bt_at a0 0
        clear p6
        have qi6 : (0 < (a0.size : Int)) = True := eq_true (of_decide_eq_true (by first | (with_reducible assumption) | assumption))
        replace q6 := eq_true q6
        go_enter Try.func43, Try.ntmps43
        go_wp2
        go_ret
        exact ⟨by first | rfl | (simp; done) | (simp [*]; done), by repeat (first | exact Drawn0.refl _ | apply Drawn0.step)⟩
      · rw [if_neg c5] at H
        have c5b0 : decide (97 ≤ (bt a0 0)) = false := decide_eq_false c5
        clear c5
        obtain rfl := Option.some.inj H
        have p4 : 0 ≤ (0 : Int) := (by omega)
        have q4 : 0 < a0.size := (by have : (0 : Int) < (a0.size : Int) := of_decide_eq_true (by first | (with_reducible assumption) | assumption); omega)
        have hx4 : ∀ h : 0 < a0.size, ((a0[0]'h).toNat : Int) = bt a0 0 := bt_at a0 0
        clear p4
        have qi4 : (0 < (a0.size : Int)) = True := eq_true (of_decide_eq_true (by first | (with_reducible assumption) | assumption))
        replace q4 := eq_true q4
        go_enter Try.func43, Try.ntmps43
        go_wp2
        go_ret
        exact ⟨by first | rfl | (simp; done) | (simp [*]; done), by repeat (first | exact Drawn0.refl _ | apply Drawn0.step)⟩
    · rw [if_neg c3] at H
      exact absurd H (by simp)
  · rw [if_neg c2] at H
    have c2b0 : ((a0.size : Int) == 1) = false := beq_eq_false_iff_ne.mpr c2
    have c2b1 : ((a0.size : Int) != 1) = true := bne_iff_ne.mpr c2
    obtain rfl := Option.some.inj H
    go_enter Try.func43, Try.ntmps43
    go_wp2
    go_ret
    exact ⟨by first | rfl | (simp; done) | (simp [*]; done), by repeat (first | exact Drawn0.refl _ | apply Drawn0.step)⟩

/-! ### spec_stLabel: function 37 -/
def spec_stLabel.f (a0 : ByteArray) : Option (Bool) := if a0.toList = ([126] : List UInt8) then (some true) else (if (a0.size : Int) = 4 then (if 1 ≤ 3 then (if 3 ≤ (a0.size : Int) then (if (a0.extract 1 3).toList = ([33, 35] : List UInt8) then (if 0 ≤ 1 then (if 1 ≤ (a0.size : Int) then ((spec_tmOne.f (a0.extract 0 1)).bind fun t101 => (if t101 = true then ((spec_tmOne.f (a0.extract 3 a0.size)).bind fun t102 => (some t102)) else (some false))) else (none)) else (none)) else (some false)) else (none)) else (none)) else (if (a0.size : Int) = 3 then (if 1 < (a0.size : Int) then (if (bt a0 1) = 33 then (if 0 ≤ 1 then (if 1 ≤ (a0.size : Int) then ((spec_tmOne.f (a0.extract 0 1)).bind fun t103 => (if t103 = true then (if 2 ≤ (a0.size : Int) then ((spec_tmOne.f (a0.extract 2 a0.size)).bind fun t104 => (some t104)) else (none)) else (some false))) else (none)) else (none)) else (if (bt a0 1) = 63 then (if 0 ≤ 1 then (if 1 ≤ (a0.size : Int) then ((spec_tmOne.f (a0.extract 0 1)).bind fun t105 => (if t105 = true then (if 2 ≤ (a0.size : Int) then ((spec_tmOne.f (a0.extract 2 a0.size)).bind fun t106 => (some t106)) else (none)) else (some false))) else (none)) else (none)) else (some false))) else (none)) else (some false)))
set_option maxHeartbeats 8000000 in
set_option maxRecDepth 100000 in
theorem spec_stLabel.calls (a0 : ByteArray) (r : Bool) (w : World) (h : spec_stLabel.f a0 = some r) :
    Calls Try.prog 37 #[.string a0] w fun e w' => e = .returned (.bool r) ∧ Drawn0 w w' := by
  have H : (if a0.toList = ([126] : List UInt8) then (some true) else (if (a0.size : Int) = 4 then (if 1 ≤ 3 then (if 3 ≤ (a0.size : Int) then (if (a0.extract 1 3).toList = ([33, 35] : List UInt8) then (if 0 ≤ 1 then (if 1 ≤ (a0.size : Int) then ((spec_tmOne.f (a0.extract 0 1)).bind fun t101 => (if t101 = true then ((spec_tmOne.f (a0.extract 3 a0.size)).bind fun t102 => (some t102)) else (some false))) else (none)) else (none)) else (some false)) else (none)) else (none)) else (if (a0.size : Int) = 3 then (if 1 < (a0.size : Int) then (if (bt a0 1) = 33 then (if 0 ≤ 1 then (if 1 ≤ (a0.size : Int) then ((spec_tmOne.f (a0.extract 0 1)).bind fun t103 => (if t103 = true then (if 2 ≤ (a0.size : Int) then ((spec_tmOne.f (a0.extract 2 a0.size)).bind fun t104 => (some t104)) else (none)) else (some false))) else (none)) else (none)) else (if (bt a0 1) = 63 then (if 0 ≤ 1 then (if 1 ≤ (a0.size : Int) then ((spec_tmOne.f (a0.extract 0 1)).bind fun t105 => (if t105 = true then (if 2 ≤ (a0.size : Int) then ((spec_tmOne.f (a0.extract 2 a0.size)).bind fun t106 => (some t106)) else (none)) else (some false))) else (none)) else (none)) else (some false))) else (none)) else (some false)))) = some r := h
  clear h
  by_cases c2 : a0.toList = ([126] : List UInt8)
  · rw [if_pos c2] at H
    have c2b0 : (a0.toList == ([126] : List UInt8)) = true := beq_iff_eq.mpr c2
    have c2b1 : (a0.toList != ([126] : List UInt8)) = false := bne_eq_false_iff_eq.mpr c2
    clear c2
    obtain rfl := Option.some.inj H
    go_enter Try.func37, Try.ntmps37
    go_wp2
    go_ret
    exact ⟨by first | rfl | (simp; done) | (simp [*]; done), by repeat (first | exact Drawn0.refl _ | apply Drawn0.step)⟩
  · rw [if_neg c2] at H
    have c2b0 : (a0.toList == ([126] : List UInt8)) = false := beq_eq_false_iff_ne.mpr c2
    have c2b1 : (a0.toList != ([126] : List UInt8)) = true := bne_iff_ne.mpr c2
    by_cases c3 : (a0.size : Int) = 4
    · rw [if_pos c3] at H
      have c3b0 : ((a0.size : Int) == 4) = true := beq_iff_eq.mpr c3
      have c3b1 : ((a0.size : Int) != 4) = false := bne_eq_false_iff_eq.mpr c3
      clear c3
      by_cases c4 : 1 ≤ 3
      · rw [if_pos c4] at H
        have c4b0 := eq_true c4
        have c4b1 : decide (1 ≤ 3) = true := decide_eq_true c4
        clear c4
        by_cases c5 : 3 ≤ (a0.size : Int)
        · rw [if_pos c5] at H
          have c5b0 := eq_true c5
          have c5b1 : decide (3 ≤ (a0.size : Int)) = true := decide_eq_true c5
          clear c5
          by_cases c6 : (a0.extract 1 3).toList = ([33, 35] : List UInt8)
          · rw [if_pos c6] at H
            have c6b0 : ((a0.extract 1 3).toList == ([33, 35] : List UInt8)) = true := beq_iff_eq.mpr c6
            have c6b1 : ((a0.extract 1 3).toList != ([33, 35] : List UInt8)) = false := bne_eq_false_iff_eq.mpr c6
            clear c6
            by_cases c7 : 0 ≤ 1
            · rw [if_pos c7] at H
              have c7b0 := eq_true c7
              have c7b1 : decide (0 ≤ 1) = true := decide_eq_true c7
              clear c7
              by_cases c8 : 1 ≤ (a0.size : Int)
              · rw [if_pos c8] at H
                have c8b0 := eq_true c8
                have c8b1 : decide (1 ≤ (a0.size : Int)) = true := decide_eq_true c8
                clear c8
                replace H := Option.bind_eq_some_iff.mp H
                obtain ⟨t101, A90, H⟩ := H
                replace H : (if t101 = true then ((spec_tmOne.f (a0.extract 3 a0.size)).bind fun t102 => (some t102)) else (some false)) = some r := H
                have A9 := Aside0.mk A90
                clear A90
                by_cases c10 : t101 = true
                · subst c10
                  have H1 : ((spec_tmOne.f (a0.extract 3 a0.size)).bind fun t102 => (some t102)) = some r := by rw [if_pos rfl] at H; exact H
                  clear H
                  have H := H1
                  clear H1
                  have c11b0 := eq_true (of_decide_eq_true (by first | (with_reducible assumption) | assumption) : 3 ≤ (a0.size : Int))
                  replace H := Option.bind_eq_some_iff.mp H
                  obtain ⟨t102, A120, H⟩ := H
                  replace H : (some t102) = some r := H
                  have A12 := Aside0.mk A120
                  clear A120
                  obtain rfl := Option.some.inj H
                  go_enter Try.func37, Try.ntmps37
                  go_wp2_with (first | (go_at_call 43; (with_reducible refine (spec_tmOne.calls (a0.extract 0 1) true _ A9.out).mono ?_); rintro e w' ⟨rfl, ⟨nd, rfl⟩⟩) | (go_at_call 43; (with_reducible refine (spec_tmOne.calls (a0.extract 3 a0.size) t102 _ A12.out).mono ?_); rintro e w' ⟨rfl, ⟨nd, rfl⟩⟩))
                  go_ret
                  exact ⟨by first | rfl | (simp; done) | (simp [*]; done), by repeat (first | exact Drawn0.refl _ | apply Drawn0.step)⟩
                · replace c10 := Bool.eq_false_iff.mpr c10
                  subst c10
                  have H1 : (some false) = some r := by rw [if_neg (show ¬ (false = true) by decide)] at H; exact H
                  clear H
                  have H := H1
                  clear H1
                  obtain rfl := Option.some.inj H
                  go_enter Try.func37, Try.ntmps37
                  go_wp2_with (first | (go_at_call 43; (with_reducible refine (spec_tmOne.calls (a0.extract 0 1) false _ A9.out).mono ?_); rintro e w' ⟨rfl, ⟨nd, rfl⟩⟩))
                  go_ret
                  exact ⟨by first | rfl | (simp; done) | (simp [*]; done), by repeat (first | exact Drawn0.refl _ | apply Drawn0.step)⟩
              · rw [if_neg c8] at H
                exact absurd H (by simp)
            · rw [if_neg c7] at H
              exact absurd H (by simp)
          · rw [if_neg c6] at H
            have c6b0 : ((a0.extract 1 3).toList == ([33, 35] : List UInt8)) = false := beq_eq_false_iff_ne.mpr c6
            have c6b1 : ((a0.extract 1 3).toList != ([33, 35] : List UInt8)) = true := bne_iff_ne.mpr c6
            obtain rfl := Option.some.inj H
            go_enter Try.func37, Try.ntmps37
            go_wp2
            go_ret
            exact ⟨by first | rfl | (simp; done) | (simp [*]; done), by repeat (first | exact Drawn0.refl _ | apply Drawn0.step)⟩
        · rw [if_neg c5] at H
          exact absurd H (by simp)
      · rw [if_neg c4] at H
        exact absurd H (by simp)
    · rw [if_neg c3] at H
      have c3b0 : ((a0.size : Int) == 4) = false := beq_eq_false_iff_ne.mpr c3
      have c3b1 : ((a0.size : Int) != 4) = true := bne_iff_ne.mpr c3
      by_cases c13 : (a0.size : Int) = 3
      · rw [if_pos c13] at H
        have c13b0 : ((a0.size : Int) == 3) = true := beq_iff_eq.mpr c13
        have c13b1 : ((a0.size : Int) != 3) = false := bne_eq_false_iff_eq.mpr c13
        clear c13
        by_cases c14 : 1 < (a0.size : Int)
        · rw [if_pos c14] at H
          have c14b0 : decide (1 < (a0.size : Int)) = true := decide_eq_true c14
          have c14b1 : decide (1 < a0.size) = true := decide_eq_true (by omega)
          clear c14
          by_cases c16 : (bt a0 1) = 33
          · rw [if_pos c16] at H
            have c16b0 : ((bt a0 1) == 33) = true := beq_iff_eq.mpr c16
            have c16b1 : ((bt a0 1) != 33) = false := bne_eq_false_iff_eq.mpr c16
            clear c16
            by_cases c17 : 0 ≤ 1
            · rw [if_pos c17] at H
              have c17b0 := eq_true c17
              have c17b1 : decide (0 ≤ 1) = true := decide_eq_true c17
              clear c17
              by_cases c18 : 1 ≤ (a0.size : Int)
              · rw [if_pos c18] at H
                have c18b0 := eq_true c18
                have c18b1 : decide (1 ≤ (a0.size : Int)) = true := decide_eq_true c18
                clear c18
                replace H := Option.bind_eq_some_iff.mp H
                obtain ⟨t103, A190, H⟩ := H
                replace H : (if t103 = true then (if 2 ≤ (a0.size : Int) then ((spec_tmOne.f (a0.extract 2 a0.size)).bind fun t104 => (some t104)) else (none)) else (some false)) = some r := H
                have A19 := Aside0.mk A190
                clear A190
                by_cases c20 : t103 = true
                · subst c20
                  have H1 : (if 2 ≤ (a0.size : Int) then ((spec_tmOne.f (a0.extract 2 a0.size)).bind fun t104 => (some t104)) else (none)) = some r := by rw [if_pos rfl] at H; exact H
                  clear H
                  have H := H1
                  clear H1
                  by_cases c21 : 2 ≤ (a0.size : Int)
                  · rw [if_pos c21] at H
                    have c21b0 := eq_true c21
                    have c21b1 : decide (2 ≤ (a0.size : Int)) = true := decide_eq_true c21
                    clear c21
                    replace H := Option.bind_eq_some_iff.mp H
                    obtain ⟨t104, A220, H⟩ := H
                    replace H : (some t104) = some r := H
                    have A22 := Aside0.mk A220
                    clear A220
                    obtain rfl := Option.some.inj H
                    have p15 : 0 ≤ (1 : Int) := (by omega)
                    have q15 : 1 < a0.size := (by have : (1 : Int) < (a0.size : Int) := of_decide_eq_true (by first | (with_reducible assumption) | assumption); omega)
                    have hx15 : ∀ h : 1 < a0.size, ((a0[1]'h).toNat : Int) = bt a0 1 := bt_at a0 1
                    clear p15
                    have qi15 : (1 < (a0.size : Int)) = True := eq_true (of_decide_eq_true (by first | (with_reducible assumption) | assumption))
                    replace q15 := eq_true q15
                    go_enter Try.func37, Try.ntmps37
                    go_wp2_with (first | (go_at_call 43; (with_reducible refine (spec_tmOne.calls (a0.extract 0 1) true _ A19.out).mono ?_); rintro e w' ⟨rfl, ⟨nd, rfl⟩⟩) | (go_at_call 43; (with_reducible refine (spec_tmOne.calls (a0.extract 2 a0.size) t104 _ A22.out).mono ?_); rintro e w' ⟨rfl, ⟨nd, rfl⟩⟩))
                    go_ret
                    exact ⟨by first | rfl | (simp; done) | (simp [*]; done), by repeat (first | exact Drawn0.refl _ | apply Drawn0.step)⟩
                  · rw [if_neg c21] at H
                    exact absurd H (by simp)
                · replace c20 := Bool.eq_false_iff.mpr c20
                  subst c20
                  have H1 : (some false) = some r := by rw [if_neg (show ¬ (false = true) by decide)] at H; exact H
                  clear H
                  have H := H1
                  clear H1
                  obtain rfl := Option.some.inj H
                  have p15 : 0 ≤ (1 : Int) := (by omega)
                  have q15 : 1 < a0.size := (by have : (1 : Int) < (a0.size : Int) := of_decide_eq_true (by first | (with_reducible assumption) | assumption); omega)
                  have hx15 : ∀ h : 1 < a0.size, ((a0[1]'h).toNat : Int) = bt a0 1 := bt_at a0 1
                  clear p15
                  have qi15 : (1 < (a0.size : Int)) = True := eq_true (of_decide_eq_true (by first | (with_reducible assumption) | assumption))
                  replace q15 := eq_true q15
                  go_enter Try.func37, Try.ntmps37
                  go_wp2_with (first | (go_at_call 43; (with_reducible refine (spec_tmOne.calls (a0.extract 0 1) false _ A19.out).mono ?_); rintro e w' ⟨rfl, ⟨nd, rfl⟩⟩))
                  go_ret
                  exact ⟨by first | rfl | (simp; done) | (simp [*]; done), by repeat (first | exact Drawn0.refl _ | apply Drawn0.step)⟩
              · rw [if_neg c18] at H
                exact absurd H (by simp)
            · rw [if_neg c17] at H
              exact absurd H (by simp)
          · rw [if_neg c16] at H
            have c16b0 : ((bt a0 1) == 33) = false := beq_eq_false_iff_ne.mpr c16
            have c16b1 : ((bt a0 1) != 33) = true := bne_iff_ne.mpr c16
            by_cases c24 : (bt a0 1) = 63
            · rw [if_pos c24] at H
              have c24b0 : ((bt a0 1) == 63) = true := beq_iff_eq.mpr c24
              have c24b1 : ((bt a0 1) != 63) = false := bne_eq_false_iff_eq.mpr c24
              clear c24
              by_cases c25 : 0 ≤ 1
              · rw [if_pos c25] at H
                have c25b0 := eq_true c25
                have c25b1 : decide (0 ≤ 1) = true := decide_eq_true c25
                clear c25
                by_cases c26 : 1 ≤ (a0.size : Int)
                · rw [if_pos c26] at H
                  have c26b0 := eq_true c26
                  have c26b1 : decide (1 ≤ (a0.size : Int)) = true := decide_eq_true c26
                  clear c26
                  replace H := Option.bind_eq_some_iff.mp H
                  obtain ⟨t105, A270, H⟩ := H
                  replace H : (if t105 = true then (if 2 ≤ (a0.size : Int) then ((spec_tmOne.f (a0.extract 2 a0.size)).bind fun t106 => (some t106)) else (none)) else (some false)) = some r := H
                  have A27 := Aside0.mk A270
                  clear A270
                  by_cases c28 : t105 = true
                  · subst c28
                    have H1 : (if 2 ≤ (a0.size : Int) then ((spec_tmOne.f (a0.extract 2 a0.size)).bind fun t106 => (some t106)) else (none)) = some r := by rw [if_pos rfl] at H; exact H
                    clear H
                    have H := H1
                    clear H1
                    by_cases c29 : 2 ≤ (a0.size : Int)
                    · rw [if_pos c29] at H
                      have c29b0 := eq_true c29
                      have c29b1 : decide (2 ≤ (a0.size : Int)) = true := decide_eq_true c29
                      clear c29
                      replace H := Option.bind_eq_some_iff.mp H
                      obtain ⟨t106, A300, H⟩ := H
                      replace H : (some t106) = some r := H
                      have A30 := Aside0.mk A300
                      clear A300
                      obtain rfl := Option.some.inj H
                      have p15 : 0 ≤ (1 : Int) := (by omega)
                      have q15 : 1 < a0.size := (by have : (1 : Int) < (a0.size : Int) := of_decide_eq_true (by first | (with_reducible assumption) | assumption); omega)
                      have hx15 : ∀ h : 1 < a0.size, ((a0[1]'h).toNat : Int) = bt a0 1 := bt_at a0 1
                      clear p15
                      have qi15 : (1 < (a0.size : Int)) = True := eq_true (of_decide_eq_true (by first | (with_reducible assumption) | assumption))
                      replace q15 := eq_true q15
                      have p23 : 0 ≤ (1 : Int) := (by omega)
                      have q23 : 1 < a0.size := (by have : (1 : Int) < (a0.size : Int) := of_decide_eq_true (by first | (with_reducible assumption) | assumption); omega)
                      have hx23 : ∀ h : 1 < a0.size, ((a0[1]'h).toNat : Int) = bt a0 1 := bt_at a0 1
                      clear p23
                      have qi23 : (1 < (a0.size : Int)) = True := eq_true (of_decide_eq_true (by first | (with_reducible assumption) | assumption))
                      replace q23 := eq_true q23
                      go_enter Try.func37, Try.ntmps37
                      go_wp2_with (first | (go_at_call 43; (with_reducible refine (spec_tmOne.calls (a0.extract 0 1) true _ A27.out).mono ?_); rintro e w' ⟨rfl, ⟨nd, rfl⟩⟩) | (go_at_call 43; (with_reducible refine (spec_tmOne.calls (a0.extract 2 a0.size) t106 _ A30.out).mono ?_); rintro e w' ⟨rfl, ⟨nd, rfl⟩⟩))
                      go_ret
                      exact ⟨by first | rfl | (simp; done) | (simp [*]; done), by repeat (first | exact Drawn0.refl _ | apply Drawn0.step)⟩
                    · rw [if_neg c29] at H
                      exact absurd H (by simp)
                  · replace c28 := Bool.eq_false_iff.mpr c28
                    subst c28
                    have H1 : (some false) = some r := by rw [if_neg (show ¬ (false = true) by decide)] at H; exact H
                    clear H
                    have H := H1
                    clear H1
                    obtain rfl := Option.some.inj H
                    have p15 : 0 ≤ (1 : Int) := (by omega)
                    have q15 : 1 < a0.size := (by have : (1 : Int) < (a0.size : Int) := of_decide_eq_true (by first | (with_reducible assumption) | assumption); omega)
                    have hx15 : ∀ h : 1 < a0.size, ((a0[1]'h).toNat : Int) = bt a0 1 := bt_at a0 1
                    clear p15
                    have qi15 : (1 < (a0.size : Int)) = True := eq_true (of_decide_eq_true (by first | (with_reducible assumption) | assumption))
                    replace q15 := eq_true q15
                    have p23 : 0 ≤ (1 : Int) := (by omega)
                    have q23 : 1 < a0.size := (by have : (1 : Int) < (a0.size : Int) := of_decide_eq_true (by first | (with_reducible assumption) | assumption); omega)
                    have hx23 : ∀ h : 1 < a0.size, ((a0[1]'h).toNat : Int) = bt a0 1 := bt_at a0 1
                    clear p23
                    have qi23 : (1 < (a0.size : Int)) = True := eq_true (of_decide_eq_true (by first | (with_reducible assumption) | assumption))
                    replace q23 := eq_true q23
                    go_enter Try.func37, Try.ntmps37
                    go_wp2_with (first | (go_at_call 43; (with_reducible refine (spec_tmOne.calls (a0.extract 0 1) false _ A27.out).mono ?_); rintro e w' ⟨rfl, ⟨nd, rfl⟩⟩))
                    go_ret
                    exact ⟨by first | rfl | (simp; done) | (simp [*]; done), by repeat (first | exact Drawn0.refl _ | apply Drawn0.step)⟩
                · rw [if_neg c26] at H
                  exact absurd H (by simp)
              · rw [if_neg c25] at H
                exact absurd H (by simp)
            · rw [if_neg c24] at H
              have c24b0 : ((bt a0 1) == 63) = false := beq_eq_false_iff_ne.mpr c24
              have c24b1 : ((bt a0 1) != 63) = true := bne_iff_ne.mpr c24
              obtain rfl := Option.some.inj H
              have p15 : 0 ≤ (1 : Int) := (by omega)
              have q15 : 1 < a0.size := (by have : (1 : Int) < (a0.size : Int) := of_decide_eq_true (by first | (with_reducible assumption) | assumption); omega)
              have hx15 : ∀ h : 1 < a0.size, ((a0[1]'h).toNat : Int) = bt a0 1 := bt_at a0 1
              clear p15
              have qi15 : (1 < (a0.size : Int)) = True := eq_true (of_decide_eq_true (by first | (with_reducible assumption) | assumption))
              replace q15 := eq_true q15
              have p23 : 0 ≤ (1 : Int) := (by omega)
              have q23 : 1 < a0.size := (by have : (1 : Int) < (a0.size : Int) := of_decide_eq_true (by first | (with_reducible assumption) | assumption); omega)
              have hx23 : ∀ h : 1 < a0.size, ((a0[1]'h).toNat : Int) = bt a0 1 := bt_at a0 1
              clear p23
              have qi23 : (1 < (a0.size : Int)) = True := eq_true (of_decide_eq_true (by first | (with_reducible assumption) | assumption))
              replace q23 := eq_true q23
              go_enter Try.func37, Try.ntmps37
              go_wp2
              go_ret
              exact ⟨by first | rfl | (simp; done) | (simp [*]; done), by repeat (first | exact Drawn0.refl _ | apply Drawn0.step)⟩
        · rw [if_neg c14] at H
          exact absurd H (by simp)
      · rw [if_neg c13] at H
        have c13b0 : ((a0.size : Int) == 3) = false := beq_eq_false_iff_ne.mpr c13
        have c13b1 : ((a0.size : Int) != 3) = true := bne_iff_ne.mpr c13
        obtain rfl := Option.some.inj H
        go_enter Try.func37, Try.ntmps37
        go_wp2
        go_ret
        exact ⟨by first | rfl | (simp; done) | (simp [*]; done), by repeat (first | exact Drawn0.refl _ | apply Drawn0.step)⟩

end Go.Proofs.Yteepgblpoddcfaa.PDepthOfFormula
