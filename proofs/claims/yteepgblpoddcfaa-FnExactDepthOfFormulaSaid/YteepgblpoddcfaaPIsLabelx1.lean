-- PRINTED BY print.sh 35421559b90ae4d0a3588c463048766b98c2df88dd9212a6774a882060cdf62d: not written by this session
import Derived.Test.YteepgblpoddcfaaPIsLabelx0
namespace Go.Proofs.Yteepgblpoddcfaa.PIsLabel
open Go.RowKit Go.Proofs.YteepgblpoddcfaaW.PrintWords Go.Proofs.YteepgblpoddcfaaW.PrintLast Go.Proofs.YteepgblpoddcfaaW.PrintMore
attribute [local go_sem] max2_int min2_int max_two min_two max_three min_three max_four min_four   -- for this text's walks alone
set_option linter.unusedVariables false
set_option linter.unusedSimpArgs false

/-! ### impl_isLetter: function 38 -/
def impl_isLetter.f (a0 : Int) : Option (Bool) := if a0 ≥ 97 then (some (decide (a0 ≤ 122))) else (some false)
set_option maxHeartbeats 8000000 in
set_option maxRecDepth 100000 in
theorem impl_isLetter.calls (a0 : Int) (r : Bool) (w : World) (h : impl_isLetter.f a0 = some r) :
    Calls Try.prog 38 #[.int .u8 a0] w fun e w' => e = .returned (.bool r) ∧ Drawn0 w w' := by
  have H : (if a0 ≥ 97 then (some (decide (a0 ≤ 122))) else (some false)) = some r := h
  clear h
  by_cases c2 : a0 ≥ 97
  · rw [if_pos c2] at H
    have c2b0 : decide (97 ≤ a0) = true := decide_eq_true c2
    clear c2
    obtain rfl := Option.some.inj H
    go_enter Try.func38, Try.ntmps38
    go_wp2
    go_ret
    exact ⟨by first | rfl | (simp; done) | (simp [*]; done), by repeat (first | exact Drawn0.refl _ | apply Drawn0.step)⟩
  · rw [if_neg c2] at H
    have c2b0 : decide (97 ≤ a0) = false := decide_eq_false c2
    clear c2
    obtain rfl := Option.some.inj H
    go_enter Try.func38, Try.ntmps38
    go_wp2
    go_ret
    exact ⟨by first | rfl | (simp; done) | (simp [*]; done), by repeat (first | exact Drawn0.refl _ | apply Drawn0.step)⟩

/-! ### impl_IsLabel: function 16 -/
def impl_IsLabel.j0 : Nat → ByteArray → Bool → Option (Bool)
  | 0, _, _ => none
  | k + 1, x0, x22 => if x22 = true then (some false) else (if 1 ≤ (wrap64 ((x0.size : Int) - 1)) then (if (wrap64 ((x0.size : Int) - 1)) ≤ (x0.size : Int) then (if (x0.extract 1 ((wrap64 ((x0.size : Int) - 1)) : Int).toNat).toList = ([33] : List UInt8) then (some true) else (if (x0.extract 1 ((wrap64 ((x0.size : Int) - 1)) : Int).toNat).toList = ([33, 35] : List UInt8) then (some true) else (if (x0.extract 1 ((wrap64 ((x0.size : Int) - 1)) : Int).toNat).toList = ([63] : List UInt8) then (some true) else (some false)))) else (none)) else (none))
def impl_IsLabel.f (k : Nat) (a0 : ByteArray) : Option (Bool) := if a0.toList = ([126] : List UInt8) then (some true) else (if (a0.size : Int) < 3 then (impl_IsLabel.j0 k a0 true) else (if 0 < (a0.size : Int) then ((impl_isLetter.f (bt a0 0)).bind fun t101 => (if t101 = true then (if 0 ≤ (wrap64 ((a0.size : Int) - 1)) then (if (wrap64 ((a0.size : Int) - 1)) < (a0.size : Int) then ((impl_isLetter.f (bt a0 (wrap64 ((a0.size : Int) - 1)))).bind fun t102 => (impl_IsLabel.j0 k a0 (!t102))) else (none)) else (none)) else (impl_IsLabel.j0 k a0 true))) else (none)))
theorem impl_IsLabel.mono_l : ∀ k, (∀ y0 y1, LeO (impl_IsLabel.j0 k y0 y1) (impl_IsLabel.j0 (k + 1) y0 y1))
  | 0 => fun _ _ r h => by simp [impl_IsLabel.j0] at h
  | k + 1 => by
    have ih0 := impl_IsLabel.mono_l k
    · intro y0 y1
      unfold impl_IsLabel.j0
      repeat' first
      | (with_reducible exact ih0 _ _)
      | (with_reducible exact LeO.refl _)
      | (with_reducible exact LeO.none _)
      | (with_reducible refine LeO.ite ?_ ?_)
      | (with_reducible refine LeO.bind ?_ (fun _ => ?_))
      | exact ih0 _ _
      | exact LeO.none _
      | refine LeO.ite ?_ ?_
      | refine LeO.bind ?_ (fun _ => ?_)
theorem impl_IsLabel.mono : ∀ a0 k, LeO (impl_IsLabel.f k a0) (impl_IsLabel.f (k + 1) a0) := by
  intro a0 k
  have ih0 := impl_IsLabel.mono_l k
  unfold impl_IsLabel.f
  repeat' first
      | (with_reducible exact ih0 _ _)
      | (with_reducible exact LeO.refl _)
      | (with_reducible exact LeO.none _)
      | (with_reducible refine LeO.ite ?_ ?_)
      | (with_reducible refine LeO.bind ?_ (fun _ => ?_))
      | exact ih0 _ _
      | exact LeO.none _
      | refine LeO.ite ?_ ?_
      | refine LeO.bind ?_ (fun _ => ?_)
set_option maxHeartbeats 8000000 in
set_option maxRecDepth 100000 in
theorem impl_IsLabel.calls (k : Nat) (a0 : ByteArray) (r : Bool) (w : World) (h : impl_IsLabel.f k a0 = some r) :
    Calls Try.prog 16 #[.string a0] w fun e w' => e = .returned (.bool r) ∧ Drawn0 w w' := by
  have H : (if a0.toList = ([126] : List UInt8) then (some true) else (if (a0.size : Int) < 3 then (impl_IsLabel.j0 k a0 true) else (if 0 < (a0.size : Int) then ((impl_isLetter.f (bt a0 0)).bind fun t101 => (if t101 = true then (if 0 ≤ (wrap64 ((a0.size : Int) - 1)) then (if (wrap64 ((a0.size : Int) - 1)) < (a0.size : Int) then ((impl_isLetter.f (bt a0 (wrap64 ((a0.size : Int) - 1)))).bind fun t102 => (impl_IsLabel.j0 k a0 (!t102))) else (none)) else (none)) else (impl_IsLabel.j0 k a0 true))) else (none)))) = some r := h
  clear h
  by_cases c2 : a0.toList = ([126] : List UInt8)
  · rw [if_pos c2] at H
    have c2b0 : (a0.toList == ([126] : List UInt8)) = true := beq_iff_eq.mpr c2
    have c2b1 : (a0.toList != ([126] : List UInt8)) = false := bne_eq_false_iff_eq.mpr c2
    clear c2
    obtain rfl := Option.some.inj H
    go_enter Try.func16, Try.ntmps16
    go_wp2
    go_ret
    exact ⟨by first | rfl | (simp; done) | (simp [*]; done), by repeat (first | exact Drawn0.refl _ | apply Drawn0.step)⟩
  · rw [if_neg c2] at H
    have c2b0 : (a0.toList == ([126] : List UInt8)) = false := beq_eq_false_iff_ne.mpr c2
    have c2b1 : (a0.toList != ([126] : List UInt8)) = true := bne_iff_ne.mpr c2
    have HC3 := Aside0.mk H
    clear H
    go_enter Try.func16, Try.ntmps16
    go_upto_region 3 with (fail)
    go_cut [22] (fun v22 wc => ∃ (kq : Nat) (x22_2 : Bool), v22 = .bool x22_2 ∧ Aside0 (impl_IsLabel.j0 kq a0 x22_2 = some r) ∧ Aside0 (kq ≤ k) ∧ Drawn0 w wc)
    case first =>
      have H := HC3.out
      clear HC3
      by_cases c4 : (a0.size : Int) < 3
      · rw [if_pos c4] at H
        have c4b0 : decide ((a0.size : Int) < 3) = true := decide_eq_true c4
        have c4b1 : decide (a0.size < 3) = true := decide_eq_true (by omega)
        clear c4
        (first | rw [c4b0] | (simp only [i64_w, i32_w]; rw [c4b0]) | skip)
        have H' := Aside0.mk H
        clear H
        go_wp2
        go_meet
        case rel => exact ⟨_, (true), (by first | rfl | (simp; done) | (simp [*]; done)), H', ⟨by first | omega | exact Nat.le_refl _⟩, by repeat (first | exact Drawn0.refl _ | apply Drawn0.step)⟩
      · rw [if_neg c4] at H
        have c4b0 : decide ((a0.size : Int) < 3) = false := decide_eq_false c4
        have c4b1 : decide (a0.size < 3) = false := decide_eq_false (by omega)
        clear c4
        (first | rw [c4b0] | (simp only [i64_w, i32_w]; rw [c4b0]) | skip)
        by_cases c5 : 0 < (a0.size : Int)
        · rw [if_pos c5] at H
          have c5b0 : decide (0 < (a0.size : Int)) = true := decide_eq_true c5
          have c5b1 : decide (0 < a0.size) = true := decide_eq_true (by omega)
          clear c5
          replace H := Option.bind_eq_some_iff.mp H
          obtain ⟨t101, A70, H⟩ := H
          replace H : (if t101 = true then (if 0 ≤ (wrap64 ((a0.size : Int) - 1)) then (if (wrap64 ((a0.size : Int) - 1)) < (a0.size : Int) then ((impl_isLetter.f (bt a0 (wrap64 ((a0.size : Int) - 1)))).bind fun t102 => (impl_IsLabel.j0 k a0 (!t102))) else (none)) else (none)) else (impl_IsLabel.j0 k a0 true)) = some r := H
          have A7 := Aside0.mk A70
          clear A70
          by_cases c8 : t101 = true
          · subst c8
            have H1 : (if 0 ≤ (wrap64 ((a0.size : Int) - 1)) then (if (wrap64 ((a0.size : Int) - 1)) < (a0.size : Int) then ((impl_isLetter.f (bt a0 (wrap64 ((a0.size : Int) - 1)))).bind fun t102 => (impl_IsLabel.j0 k a0 (!t102))) else (none)) else (none)) = some r := by rw [if_pos rfl] at H; exact H
            clear H
            have H := H1
            clear H1
            obtain ⟨ji9, hji9⟩ : ∃ j_ : Int, (wrap64 ((a0.size : Int) - 1)) = j_ := ⟨_, rfl⟩
            replace H : (if 0 ≤ (ji9) then (if (ji9) < (a0.size : Int) then ((impl_isLetter.f (bt a0 (ji9))).bind fun t102 => (impl_IsLabel.j0 k a0 (!t102))) else (none)) else (none)) = some r := by first | (rw [hji9] at H; exact H) | (simp only [hji9] at H ⊢; exact H)
            (try rw [hji9] at A7)
            have hji9w : (IntKind.i64.wrap ((a0.size : Int) - 1)) = ji9 := (i64_w _).trans hji9
            by_cases c10 : 0 ≤ (ji9)
            · rw [if_pos c10] at H
              have c10b0 : decide (0 ≤ (ji9)) = true := decide_eq_true c10
              clear c10
              by_cases c11 : (ji9) < (a0.size : Int)
              · rw [if_pos c11] at H
                have c11b0 : decide ((ji9) < (a0.size : Int)) = true := decide_eq_true c11
                clear c11
                replace H := Option.bind_eq_some_iff.mp H
                obtain ⟨t102, A130, H⟩ := H
                replace H : (impl_IsLabel.j0 k a0 (!t102)) = some r := H
                have A13 := Aside0.mk A130
                clear A130
                have H' := Aside0.mk H
                clear H
                have p6 : 0 ≤ (0 : Int) := (by omega)
                have q6 : 0 < a0.size := (by have : (0 : Int) < (a0.size : Int) := of_decide_eq_true (by first | (with_reducible assumption) | assumption); omega)
                have hx6 : ∀ h : 0 < a0.size, ((a0[0]'h).toNat : Int) = bt a0 0 := bt_at a0 0
                clear p6
                have qi6 : (0 < (a0.size : Int)) = True := eq_true (of_decide_eq_true (by first | (with_reducible assumption) | assumption))
                replace q6 := eq_true q6
                go_wp2_with (first | (go_at_call 38; (with_reducible refine (impl_isLetter.calls (bt a0 0) true _ A7.out).mono ?_); rintro e w' ⟨rfl, ⟨nd, rfl⟩⟩; have p12 : 0 ≤ ((ji9) : Int) := of_decide_eq_true (by first | (with_reducible assumption) | assumption); have q12 : (ji9) < (a0.size : Int) := of_decide_eq_true (by first | (with_reducible assumption) | assumption); have hx12 := bt_at a0 (ji9); replace p12 := eq_true p12; replace q12 := eq_true q12) | (go_at_call 38; (with_reducible refine (impl_isLetter.calls (bt a0 (ji9)) t102 _ A13.out).mono ?_); rintro e w' ⟨rfl, ⟨nd, rfl⟩⟩))
                go_meet
                case rel => exact ⟨_, (!t102), (by first | rfl | (simp; done) | (simp [*]; done)), H', ⟨by first | omega | exact Nat.le_refl _⟩, by repeat (first | exact Drawn0.refl _ | apply Drawn0.step)⟩
              · rw [if_neg c11] at H
                exact absurd H (by simp)
            · rw [if_neg c10] at H
              exact absurd H (by simp)
          · replace c8 := Bool.eq_false_iff.mpr c8
            subst c8
            have H1 : (impl_IsLabel.j0 k a0 true) = some r := by rw [if_neg (show ¬ (false = true) by decide)] at H; exact H
            clear H
            have H := H1
            clear H1
            have H' := Aside0.mk H
            clear H
            have p6 : 0 ≤ (0 : Int) := (by omega)
            have q6 : 0 < a0.size := (by have : (0 : Int) < (a0.size : Int) := of_decide_eq_true (by first | (with_reducible assumption) | assumption); omega)
            have hx6 : ∀ h : 0 < a0.size, ((a0[0]'h).toNat : Int) = bt a0 0 := bt_at a0 0
            clear p6
            have qi6 : (0 < (a0.size : Int)) = True := eq_true (of_decide_eq_true (by first | (with_reducible assumption) | assumption))
            replace q6 := eq_true q6
            go_wp2_with (first | (go_at_call 38; (with_reducible refine (impl_isLetter.calls (bt a0 0) false _ A7.out).mono ?_); rintro e w' ⟨rfl, ⟨nd, rfl⟩⟩))
            go_meet
            case rel => exact ⟨_, (true), (by first | rfl | (simp; done) | (simp [*]; done)), H', ⟨by first | omega | exact Nat.le_refl _⟩, by repeat (first | exact Drawn0.refl _ | apply Drawn0.step)⟩
        · rw [if_neg c5] at H
          exact absurd H (by simp)
    case rest =>
      clear HC3
      try clear c1
      try clear p1
      try clear q1
      try clear hx1
      try clear c2
      try clear c2b0
      try clear c2b1
      try clear p2
      try clear c4
      try clear c4b0
      try clear c4b1
      try clear c5
      try clear c5b0
      try clear c5b1
      try clear p6
      try clear q6
      try clear hx6
      try clear qi6
      try clear c8
      try clear c10
      try clear c10b0
      try clear c11
      try clear c11b0
      try clear p12
      try clear q12
      try clear hx12
      try clear p12
      try clear p6
      try clear q12
      try clear q6
      obtain ⟨kq, x22_2, rfl, HA, HJ2, ⟨mc2, rfl⟩⟩ := hcut
      cases kq with
      | zero => exact absurd HA.out (by simp [impl_IsLabel.j0])
      | succ kj2 =>
        have H := HA.out
        clear HA
        simp only [impl_IsLabel.j0] at H
        by_cases c14 : x22_2 = true
        · subst c14
          have H1 : (some false) = some r := by rw [if_pos rfl] at H; exact H
          clear H
          have H := H1
          clear H1
          obtain rfl := Option.some.inj H
          go_wp2
          go_ret
          exact ⟨by first | rfl | (simp; done) | (simp [*]; done), by repeat (first | exact Drawn0.refl _ | apply Drawn0.step)⟩
        · replace c14 := Bool.eq_false_iff.mpr c14
          subst c14
          have H1 : (if 1 ≤ (wrap64 ((a0.size : Int) - 1)) then (if (wrap64 ((a0.size : Int) - 1)) ≤ (a0.size : Int) then (if (a0.extract 1 ((wrap64 ((a0.size : Int) - 1)) : Int).toNat).toList = ([33] : List UInt8) then (some true) else (if (a0.extract 1 ((wrap64 ((a0.size : Int) - 1)) : Int).toNat).toList = ([33, 35] : List UInt8) then (some true) else (if (a0.extract 1 ((wrap64 ((a0.size : Int) - 1)) : Int).toNat).toList = ([63] : List UInt8) then (some true) else (some false)))) else (none)) else (none)) = some r := by rw [if_neg (show ¬ (false = true) by decide)] at H; exact H
          clear H
          have H := H1
          clear H1
          by_cases c15 : 1 ≤ (wrap64 ((a0.size : Int) - 1))
          · rw [if_pos c15] at H
            have c15b0 := eq_true c15
            have c15b1 : decide (1 ≤ (wrap64 ((a0.size : Int) - 1))) = true := decide_eq_true c15
            clear c15
            by_cases c16 : (wrap64 ((a0.size : Int) - 1)) ≤ (a0.size : Int)
            · rw [if_pos c16] at H
              have c16b0 := eq_true c16
              have c16b1 : decide ((wrap64 ((a0.size : Int) - 1)) ≤ (a0.size : Int)) = true := decide_eq_true c16
              clear c16
              by_cases c17 : (a0.extract 1 ((wrap64 ((a0.size : Int) - 1)) : Int).toNat).toList = ([33] : List UInt8)
              · rw [if_pos c17] at H
                have c17b0 : ((a0.extract 1 ((wrap64 ((a0.size : Int) - 1)) : Int).toNat).toList == ([33] : List UInt8)) = true := beq_iff_eq.mpr c17
                have c17b1 : ((a0.extract 1 ((wrap64 ((a0.size : Int) - 1)) : Int).toNat).toList != ([33] : List UInt8)) = false := bne_eq_false_iff_eq.mpr c17
                clear c17
                obtain rfl := Option.some.inj H
                go_wp2
                go_ret
                exact ⟨by first | rfl | (simp; done) | (simp [*]; done), by repeat (first | exact Drawn0.refl _ | apply Drawn0.step)⟩
              · rw [if_neg c17] at H
                have c17b0 : ((a0.extract 1 ((wrap64 ((a0.size : Int) - 1)) : Int).toNat).toList == ([33] : List UInt8)) = false := beq_eq_false_iff_ne.mpr c17
                have c17b1 : ((a0.extract 1 ((wrap64 ((a0.size : Int) - 1)) : Int).toNat).toList != ([33] : List UInt8)) = true := bne_iff_ne.mpr c17
                by_cases c18 : (a0.extract 1 ((wrap64 ((a0.size : Int) - 1)) : Int).toNat).toList = ([33, 35] : List UInt8)
                · rw [if_pos c18] at H
                  have c18b0 : ((a0.extract 1 ((wrap64 ((a0.size : Int) - 1)) : Int).toNat).toList == ([33, 35] : List UInt8)) = true := beq_iff_eq.mpr c18
                  have c18b1 : ((a0.extract 1 ((wrap64 ((a0.size : Int) - 1)) : Int).toNat).toList != ([33, 35] : List UInt8)) = false := bne_eq_false_iff_eq.mpr c18
                  clear c18
                  obtain rfl := Option.some.inj H
                  go_wp2
                  go_ret
                  exact ⟨by first | rfl | (simp; done) | (simp [*]; done), by repeat (first | exact Drawn0.refl _ | apply Drawn0.step)⟩
                · rw [if_neg c18] at H
                  have c18b0 : ((a0.extract 1 ((wrap64 ((a0.size : Int) - 1)) : Int).toNat).toList == ([33, 35] : List UInt8)) = false := beq_eq_false_iff_ne.mpr c18
                  have c18b1 : ((a0.extract 1 ((wrap64 ((a0.size : Int) - 1)) : Int).toNat).toList != ([33, 35] : List UInt8)) = true := bne_iff_ne.mpr c18
                  by_cases c19 : (a0.extract 1 ((wrap64 ((a0.size : Int) - 1)) : Int).toNat).toList = ([63] : List UInt8)
                  · rw [if_pos c19] at H
                    have c19b0 : ((a0.extract 1 ((wrap64 ((a0.size : Int) - 1)) : Int).toNat).toList == ([63] : List UInt8)) = true := beq_iff_eq.mpr c19
                    have c19b1 : ((a0.extract 1 ((wrap64 ((a0.size : Int) - 1)) : Int).toNat).toList != ([63] : List UInt8)) = false := bne_eq_false_iff_eq.mpr c19
                    clear c19
                    obtain rfl := Option.some.inj H
                    go_wp2
                    go_ret
                    exact ⟨by first | rfl | (simp; done) | (simp [*]; done), by repeat (first | exact Drawn0.refl _ | apply Drawn0.step)⟩
                  · rw [if_neg c19] at H
                    have c19b0 : ((a0.extract 1 ((wrap64 ((a0.size : Int) - 1)) : Int).toNat).toList == ([63] : List UInt8)) = false := beq_eq_false_iff_ne.mpr c19
                    have c19b1 : ((a0.extract 1 ((wrap64 ((a0.size : Int) - 1)) : Int).toNat).toList != ([63] : List UInt8)) = true := bne_iff_ne.mpr c19
                    obtain rfl := Option.some.inj H
                    go_wp2
                    go_ret
                    exact ⟨by first | rfl | (simp; done) | (simp [*]; done), by repeat (first | exact Drawn0.refl _ | apply Drawn0.step)⟩
            · rw [if_neg c16] at H
              exact absurd H (by simp)
          · rw [if_neg c15] at H
            exact absurd H (by simp)

/-- THE ONE PURE STATEMENT of impl_IsLabel: yours. -/
def impl_IsLabel.Pure : Prop := ∀ (a0 : ByteArray), a0.size ≤ 140737488351232 → ∃ k, impl_IsLabel.f k a0 = some true
theorem impl_IsLabel.walk (P : impl_IsLabel.Pure) (a0 : ByteArray) (w : World) (w0 : a0.size ≤ 140737488351232) :
    Calls Try.prog 16 #[.string a0] w fun e w' => e = .returned (.bool true) ∧ Below w.heap.size w w' := by
  obtain ⟨k, h⟩ := P a0 w0
  refine (impl_IsLabel.calls k a0 true w h).mono ?_
  rintro e w' ⟨rfl, hd⟩
  exact ⟨rfl, hd.below⟩

end Go.Proofs.Yteepgblpoddcfaa.PIsLabel
