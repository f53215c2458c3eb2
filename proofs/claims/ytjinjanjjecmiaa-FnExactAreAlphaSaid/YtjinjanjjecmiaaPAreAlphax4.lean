-- PRINTED BY print.sh 35421559b90ae4d0a3588c463048766b98c2df88dd9212a6774a882060cdf62d: not written by this session
import Derived.Test.YtjinjanjjecmiaaPAreAlphax0
import Derived.Test.YtjinjanjjecmiaaPAreAlphax1
import Derived.Test.YtjinjanjjecmiaaPAreAlphax2
import Derived.Test.YtjinjanjjecmiaaPAreAlphax3
namespace Go.Proofs.Ytjinjanjjecmiaa.PAreAlpha
open Go.RowKit Go.Proofs.YtjinjanjjecmiaaW.PrintWords Go.Proofs.YtjinjanjjecmiaaW.PrintLast Go.Proofs.YtjinjanjjecmiaaW.PrintMore
attribute [local go_sem] max2_int min2_int max_two min_two max_three min_three max_four min_four   -- for this text's walks alone
set_option linter.unusedVariables false
set_option linter.unusedSimpArgs false

/-! ### spec_tmGood: function 43 -/
def spec_tmGood.f (k : Nat) (a0 : ByteArray) : Option (Bool) := if (a0.size : Int) ≤ 300 then ((spec_tmSmall.f k a0).bind fun t131 => (if t131 = true then ((spec_tmEnd.f k a0 0).bind fun t132 => (if t132 = (a0.size : Int) then ((spec_tmSize.f k a0).bind fun t133 => (some (decide (t133 ≤ 60)))) else (some false))) else (some false))) else (some false)
theorem spec_tmGood.mono : ∀ a0 k, LeO (spec_tmGood.f k a0) (spec_tmGood.f (k + 1) a0) := by
  intro a0 k
  unfold spec_tmGood.f
  repeat' first
      | (with_reducible exact spec_tmEnd.mono _ _ _)
      | (with_reducible exact spec_tmSize.mono _ _)
      | (with_reducible exact spec_tmSmall.mono _ _)
      | (with_reducible exact LeO.refl _)
      | (with_reducible exact LeO.none _)
      | (with_reducible refine LeO.ite ?_ ?_)
      | (with_reducible refine LeO.bind ?_ (fun _ => ?_))
      | exact spec_tmEnd.mono _ _ _
      | exact spec_tmSize.mono _ _
      | exact spec_tmSmall.mono _ _
      | exact LeO.none _
      | refine LeO.ite ?_ ?_
      | refine LeO.bind ?_ (fun _ => ?_)
set_option maxHeartbeats 8000000 in
set_option maxRecDepth 100000 in
theorem spec_tmGood.calls (k : Nat) (a0 : ByteArray) (r : Bool) (w : World) (h : spec_tmGood.f k a0 = some r) :
    Calls Try.prog 43 #[.string a0] w fun e w' => e = .returned (.bool r) ∧ Below w.heap.size w w' := by
  have HB := Aside0.mk (Below.refl w.heap.size w)
  have H : (if (a0.size : Int) ≤ 300 then ((spec_tmSmall.f k a0).bind fun t131 => (if t131 = true then ((spec_tmEnd.f k a0 0).bind fun t132 => (if t132 = (a0.size : Int) then ((spec_tmSize.f k a0).bind fun t133 => (some (decide (t133 ≤ 60)))) else (some false))) else (some false))) else (some false)) = some r := h
  clear h
  by_cases c2 : (a0.size : Int) ≤ 300
  · rw [if_pos c2] at H
    have c2b0 : decide ((a0.size : Int) ≤ 300) = true := decide_eq_true c2
    have c2b1 : decide (a0.size ≤ 300) = true := decide_eq_true (by omega)
    clear c2
    replace H := Option.bind_eq_some_iff.mp H
    obtain ⟨t131, A30, H⟩ := H
    replace H : (if t131 = true then ((spec_tmEnd.f k a0 0).bind fun t132 => (if t132 = (a0.size : Int) then ((spec_tmSize.f k a0).bind fun t133 => (some (decide (t133 ≤ 60)))) else (some false))) else (some false)) = some r := H
    have A3 := Aside0.mk A30
    clear A30
    by_cases c4 : t131 = true
    · subst c4
      have H1 : ((spec_tmEnd.f k a0 0).bind fun t132 => (if t132 = (a0.size : Int) then ((spec_tmSize.f k a0).bind fun t133 => (some (decide (t133 ≤ 60)))) else (some false))) = some r := by rw [if_pos rfl] at H; exact H
      clear H
      have H := H1
      clear H1
      replace H := Option.bind_eq_some_iff.mp H
      obtain ⟨t132, A50, H⟩ := H
      replace H : (if t132 = (a0.size : Int) then ((spec_tmSize.f k a0).bind fun t133 => (some (decide (t133 ≤ 60)))) else (some false)) = some r := H
      have A5 := Aside0.mk A50
      clear A50
      by_cases c6 : t132 = (a0.size : Int)
      · rw [if_pos c6] at H
        have c6b0 : (t132 == (a0.size : Int)) = true := beq_iff_eq.mpr c6
        have c6b1 : (t132 != (a0.size : Int)) = false := bne_eq_false_iff_eq.mpr c6
        clear c6
        replace H := Option.bind_eq_some_iff.mp H
        obtain ⟨t133, A70, H⟩ := H
        replace H : (some (decide (t133 ≤ 60))) = some r := H
        have A7 := Aside0.mk A70
        clear A70
        obtain rfl := Option.some.inj H
        go_enter Try.func43, Try.ntmps43
        go_wp2_with (first | (go_at_call 75; (with_reducible refine (spec_tmSmall.calls k a0 true _ A3.out).mono ?_); rintro e w' ⟨rfl, ⟨nd, rfl⟩⟩) | (go_at_call 76; (with_reducible refine (spec_tmEnd.calls k a0 0 t132 _ A5.out).mono ?_); rintro e w' ⟨rfl, ⟨nd, rfl⟩⟩) | (go_at_call 77; (with_reducible refine (spec_tmSize.calls k a0 t133 _ A7.out).mono ?_); rintro e w8 ⟨rfl, hb⟩; have n0_ := Aside0.mk (below_step (by repeat (first | (with_reducible first | exact HB.out | apply below_alloc | apply pw_below_drewN | apply below_drew1) | exact HB.out)) hb); clear HB; have HB := n0_; clear n0_; (try clear hb); (try clear hb2); (try clear hk); (try clear hi)))
        go_ret
        exact ⟨by first | rfl | (simp [errW_none, errW_some] <;> rfl) | (simp [*, errW_none, errW_some] <;> rfl), by repeat (first | (with_reducible first | exact HB.out | apply below_alloc | apply pw_below_drewN | apply below_drew1) | exact HB.out)⟩
      · rw [if_neg c6] at H
        have c6b0 : (t132 == (a0.size : Int)) = false := beq_eq_false_iff_ne.mpr c6
        have c6b1 : (t132 != (a0.size : Int)) = true := bne_iff_ne.mpr c6
        obtain rfl := Option.some.inj H
        go_enter Try.func43, Try.ntmps43
        go_wp2_with (first | (go_at_call 75; (with_reducible refine (spec_tmSmall.calls k a0 true _ A3.out).mono ?_); rintro e w' ⟨rfl, ⟨nd, rfl⟩⟩) | (go_at_call 76; (with_reducible refine (spec_tmEnd.calls k a0 0 t132 _ A5.out).mono ?_); rintro e w' ⟨rfl, ⟨nd, rfl⟩⟩))
        go_ret
        exact ⟨by first | rfl | (simp [errW_none, errW_some] <;> rfl) | (simp [*, errW_none, errW_some] <;> rfl), by repeat (first | (with_reducible first | exact HB.out | apply below_alloc | apply pw_below_drewN | apply below_drew1) | exact HB.out)⟩
    · replace c4 := Bool.eq_false_iff.mpr c4
      subst c4
      have H1 : (some false) = some r := by rw [if_neg (show ¬ (false = true) by decide)] at H; exact H
      clear H
      have H := H1
      clear H1
      obtain rfl := Option.some.inj H
      go_enter Try.func43, Try.ntmps43
      go_wp2_with (first | (go_at_call 75; (with_reducible refine (spec_tmSmall.calls k a0 false _ A3.out).mono ?_); rintro e w' ⟨rfl, ⟨nd, rfl⟩⟩))
      go_ret
      exact ⟨by first | rfl | (simp [errW_none, errW_some] <;> rfl) | (simp [*, errW_none, errW_some] <;> rfl), by repeat (first | (with_reducible first | exact HB.out | apply below_alloc | apply pw_below_drewN | apply below_drew1) | exact HB.out)⟩
  · rw [if_neg c2] at H
    have c2b0 : decide ((a0.size : Int) ≤ 300) = false := decide_eq_false c2
    have c2b1 : decide (a0.size ≤ 300) = false := decide_eq_false (by omega)
    clear c2
    obtain rfl := Option.some.inj H
    go_enter Try.func43, Try.ntmps43
    go_wp2
    go_ret
    exact ⟨by first | rfl | (simp [errW_none, errW_some] <;> rfl) | (simp [*, errW_none, errW_some] <;> rfl), by repeat (first | (with_reducible first | exact HB.out | apply below_alloc | apply pw_below_drewN | apply below_drew1) | exact HB.out)⟩

/-! ### spec_tmBinds: function 91 -/
def spec_tmBinds.f (k : Nat) (a0 : ByteArray) : Option (Int × Bool) := (spec_tmKind.f k a0).bind fun t134 => (if t134 = 63 then (if 2 < (a0.size : Int) then (some (bt a0 2, true)) else (none)) else (if t134 = 35 then (if 1 < (a0.size : Int) then (some (bt a0 1, true)) else (none)) else (some (0, false))))
theorem spec_tmBinds.mono : ∀ a0 k, LeO (spec_tmBinds.f k a0) (spec_tmBinds.f (k + 1) a0) := by
  intro a0 k
  unfold spec_tmBinds.f
  repeat' first
      | (with_reducible exact spec_tmKind.mono _ _)
      | (with_reducible exact LeO.refl _)
      | (with_reducible exact LeO.none _)
      | (with_reducible refine LeO.ite ?_ ?_)
      | (with_reducible refine LeO.bind ?_ (fun _ => ?_))
      | exact spec_tmKind.mono _ _
      | exact LeO.none _
      | refine LeO.ite ?_ ?_
      | refine LeO.bind ?_ (fun _ => ?_)
set_option maxHeartbeats 8000000 in
set_option maxRecDepth 100000 in
theorem spec_tmBinds.calls (k : Nat) (a0 : ByteArray) (r1 : Int) (r2 : Bool) (w : World) (h : spec_tmBinds.f k a0 = some (r1, r2)) :
    Calls Try.prog 91 #[.string a0] w fun e w' => e = .returned (.tuple #[.int .u8 r1, .bool r2]) ∧ Drawn0 w w' := by
  have H : ((spec_tmKind.f k a0).bind fun t134 => (if t134 = 63 then (if 2 < (a0.size : Int) then (some (bt a0 2, true)) else (none)) else (if t134 = 35 then (if 1 < (a0.size : Int) then (some (bt a0 1, true)) else (none)) else (some (0, false))))) = some (r1, r2) := h
  clear h
  replace H := Option.bind_eq_some_iff.mp H
  obtain ⟨t134, A20, H⟩ := H
  replace H : (if t134 = 63 then (if 2 < (a0.size : Int) then (some (bt a0 2, true)) else (none)) else (if t134 = 35 then (if 1 < (a0.size : Int) then (some (bt a0 1, true)) else (none)) else (some (0, false)))) = some (r1, r2) := H
  have A2 := Aside0.mk A20
  clear A20
  by_cases c3 : t134 = 63
  · rw [if_pos c3] at H
    have c3b0 : (t134 == 63) = true := beq_iff_eq.mpr c3
    have c3b1 : (t134 != 63) = false := bne_eq_false_iff_eq.mpr c3
    clear c3
    by_cases c4 : 2 < (a0.size : Int)
    · rw [if_pos c4] at H
      have c4b0 : decide (2 < (a0.size : Int)) = true := decide_eq_true c4
      have c4b1 : decide (2 < a0.size) = true := decide_eq_true (by omega)
      clear c4
      simp only [Option.some.injEq, Prod.mk.injEq] at H
      obtain ⟨rfl, rfl⟩ := H
      go_enter Try.func91, Try.ntmps91
      go_wp2_with (first | ((with_reducible refine gate_callee (f := 74) rfl ?_); refine goesL_ (some 5) rfl rfl Try.func74 (by kernel_rfl) rfl #[.string a0] rfl (by (try simp only [List.map_toArray, List.map_cons, List.map_nil]); first | done | rfl | (simp only [List.length_drop, List.length_take]; rfl)) ?_; (with_reducible refine (spec_tmKind.calls k a0 t134 _ A2.out).mono ?_); rintro e w' ⟨rfl, ⟨nd, rfl⟩⟩; refine ⟨_, rfl, ?_⟩; have p5 : 0 ≤ (2 : Int) := (by omega); have q5 : 2 < a0.size := (by have : (2 : Int) < (a0.size : Int) := of_decide_eq_true (by first | (with_reducible assumption) | assumption); omega); have hx5 : ∀ h : 2 < a0.size, ((a0[2]'h).toNat : Int) = bt a0 2 := bt_at a0 2; clear p5; have qi5 : (2 < (a0.size : Int)) = True := eq_true (of_decide_eq_true (by first | (with_reducible assumption) | assumption)); replace q5 := eq_true q5))
      go_ret2
      exact ⟨by first | rfl | (simp; done) | (simp [*]; done), by repeat (first | exact Drawn0.refl _ | apply Drawn0.step)⟩
    · rw [if_neg c4] at H
      exact absurd H (by simp)
  · rw [if_neg c3] at H
    have c3b0 : (t134 == 63) = false := beq_eq_false_iff_ne.mpr c3
    have c3b1 : (t134 != 63) = true := bne_iff_ne.mpr c3
    by_cases c6 : t134 = 35
    · rw [if_pos c6] at H
      have c6b0 : (t134 == 35) = true := beq_iff_eq.mpr c6
      have c6b1 : (t134 != 35) = false := bne_eq_false_iff_eq.mpr c6
      clear c6
      by_cases c7 : 1 < (a0.size : Int)
      · rw [if_pos c7] at H
        have c7b0 : decide (1 < (a0.size : Int)) = true := decide_eq_true c7
        have c7b1 : decide (1 < a0.size) = true := decide_eq_true (by omega)
        clear c7
        simp only [Option.some.injEq, Prod.mk.injEq] at H
        obtain ⟨rfl, rfl⟩ := H
        go_enter Try.func91, Try.ntmps91
        go_wp2_with (first | ((with_reducible refine gate_callee (f := 74) rfl ?_); refine goesL_ (some 5) rfl rfl Try.func74 (by kernel_rfl) rfl #[.string a0] rfl (by (try simp only [List.map_toArray, List.map_cons, List.map_nil]); first | done | rfl | (simp only [List.length_drop, List.length_take]; rfl)) ?_; (with_reducible refine (spec_tmKind.calls k a0 t134 _ A2.out).mono ?_); rintro e w' ⟨rfl, ⟨nd, rfl⟩⟩; refine ⟨_, rfl, ?_⟩; have p8 : 0 ≤ (1 : Int) := (by omega); have q8 : 1 < a0.size := (by have : (1 : Int) < (a0.size : Int) := of_decide_eq_true (by first | (with_reducible assumption) | assumption); omega); have hx8 : ∀ h : 1 < a0.size, ((a0[1]'h).toNat : Int) = bt a0 1 := bt_at a0 1; clear p8; have qi8 : (1 < (a0.size : Int)) = True := eq_true (of_decide_eq_true (by first | (with_reducible assumption) | assumption)); replace q8 := eq_true q8))
        go_ret2
        exact ⟨by first | rfl | (simp; done) | (simp [*]; done), by repeat (first | exact Drawn0.refl _ | apply Drawn0.step)⟩
      · rw [if_neg c7] at H
        exact absurd H (by simp)
    · rw [if_neg c6] at H
      have c6b0 : (t134 == 35) = false := beq_eq_false_iff_ne.mpr c6
      have c6b1 : (t134 != 35) = true := bne_iff_ne.mpr c6
      simp only [Option.some.injEq, Prod.mk.injEq] at H
      obtain ⟨rfl, rfl⟩ := H
      go_enter Try.func91, Try.ntmps91
      go_wp2_with (first | ((with_reducible refine gate_callee (f := 74) rfl ?_); refine goesL_ (some 5) rfl rfl Try.func74 (by kernel_rfl) rfl #[.string a0] rfl (by (try simp only [List.map_toArray, List.map_cons, List.map_nil]); first | done | rfl | (simp only [List.length_drop, List.length_take]; rfl)) ?_; (with_reducible refine (spec_tmKind.calls k a0 t134 _ A2.out).mono ?_); rintro e w' ⟨rfl, ⟨nd, rfl⟩⟩; refine ⟨_, rfl, ?_⟩))
      go_ret2
      exact ⟨by first | rfl | (simp; done) | (simp [*]; done), by repeat (first | exact Drawn0.refl _ | apply Drawn0.step)⟩

/-! ### spec_tmNames: function 95 -/
def spec_tmNames.f (k : Nat) (a0 : ByteArray) : Option (ByteArray) := (spec_tmKind.f k a0).bind fun t135 => (if t135 = 33 then (if 0 ≤ 1 then (if 1 ≤ (a0.size : Int) then (if 2 ≤ 3 then (if 3 ≤ (a0.size : Int) then (if (a0.extract 0 1).size + (a0.extract 2 3).size ≤ 9223372036854775807 then (some ((a0.extract 0 1) ++ (a0.extract 2 3))) else (none)) else (none)) else (none)) else (none)) else (none)) else (if t135 = 63 then (if 0 ≤ 1 then (if 1 ≤ (a0.size : Int) then (some (a0.extract 0 1)) else (none)) else (none)) else (if t135 = 61 then (if 1 ≤ 2 then (if 2 ≤ (a0.size : Int) then (if 3 ≤ 4 then (if 4 ≤ (a0.size : Int) then (if (a0.extract 1 2).size + (a0.extract 3 4).size ≤ 9223372036854775807 then (some ((a0.extract 1 2) ++ (a0.extract 3 4))) else (none)) else (none)) else (none)) else (none)) else (none)) else (some (⟨#[]⟩ : ByteArray)))))
theorem spec_tmNames.mono : ∀ a0 k, LeO (spec_tmNames.f k a0) (spec_tmNames.f (k + 1) a0) := by
  intro a0 k
  unfold spec_tmNames.f
  repeat' first
      | (with_reducible exact spec_tmKind.mono _ _)
      | (with_reducible exact LeO.refl _)
      | (with_reducible exact LeO.none _)
      | (with_reducible refine LeO.ite ?_ ?_)
      | (with_reducible refine LeO.bind ?_ (fun _ => ?_))
      | exact spec_tmKind.mono _ _
      | exact LeO.none _
      | refine LeO.ite ?_ ?_
      | refine LeO.bind ?_ (fun _ => ?_)
set_option maxHeartbeats 8000000 in
set_option maxRecDepth 100000 in
theorem spec_tmNames.calls (k : Nat) (a0 : ByteArray) (r : ByteArray) (w : World) (h : spec_tmNames.f k a0 = some r) :
    Calls Try.prog 95 #[.string a0] w fun e w' => e = .returned (.string r) ∧ Drawn0 w w' := by
  have H : ((spec_tmKind.f k a0).bind fun t135 => (if t135 = 33 then (if 0 ≤ 1 then (if 1 ≤ (a0.size : Int) then (if 2 ≤ 3 then (if 3 ≤ (a0.size : Int) then (if (a0.extract 0 1).size + (a0.extract 2 3).size ≤ 9223372036854775807 then (some ((a0.extract 0 1) ++ (a0.extract 2 3))) else (none)) else (none)) else (none)) else (none)) else (none)) else (if t135 = 63 then (if 0 ≤ 1 then (if 1 ≤ (a0.size : Int) then (some (a0.extract 0 1)) else (none)) else (none)) else (if t135 = 61 then (if 1 ≤ 2 then (if 2 ≤ (a0.size : Int) then (if 3 ≤ 4 then (if 4 ≤ (a0.size : Int) then (if (a0.extract 1 2).size + (a0.extract 3 4).size ≤ 9223372036854775807 then (some ((a0.extract 1 2) ++ (a0.extract 3 4))) else (none)) else (none)) else (none)) else (none)) else (none)) else (some (⟨#[]⟩ : ByteArray)))))) = some r := h
  clear h
  replace H := Option.bind_eq_some_iff.mp H
  obtain ⟨t135, A20, H⟩ := H
  replace H : (if t135 = 33 then (if 0 ≤ 1 then (if 1 ≤ (a0.size : Int) then (if 2 ≤ 3 then (if 3 ≤ (a0.size : Int) then (if (a0.extract 0 1).size + (a0.extract 2 3).size ≤ 9223372036854775807 then (some ((a0.extract 0 1) ++ (a0.extract 2 3))) else (none)) else (none)) else (none)) else (none)) else (none)) else (if t135 = 63 then (if 0 ≤ 1 then (if 1 ≤ (a0.size : Int) then (some (a0.extract 0 1)) else (none)) else (none)) else (if t135 = 61 then (if 1 ≤ 2 then (if 2 ≤ (a0.size : Int) then (if 3 ≤ 4 then (if 4 ≤ (a0.size : Int) then (if (a0.extract 1 2).size + (a0.extract 3 4).size ≤ 9223372036854775807 then (some ((a0.extract 1 2) ++ (a0.extract 3 4))) else (none)) else (none)) else (none)) else (none)) else (none)) else (some (⟨#[]⟩ : ByteArray))))) = some r := H
  have A2 := Aside0.mk A20
  clear A20
  by_cases c3 : t135 = 33
  · rw [if_pos c3] at H
    have c3b0 : (t135 == 33) = true := beq_iff_eq.mpr c3
    have c3b1 : (t135 != 33) = false := bne_eq_false_iff_eq.mpr c3
    clear c3
    by_cases c4 : 0 ≤ 1
    · rw [if_pos c4] at H
      have c4b0 := eq_true c4
      have c4b1 : decide (0 ≤ 1) = true := decide_eq_true c4
      clear c4
      by_cases c5 : 1 ≤ (a0.size : Int)
      · rw [if_pos c5] at H
        have c5b0 := eq_true c5
        have c5b1 : decide (1 ≤ (a0.size : Int)) = true := decide_eq_true c5
        clear c5
        by_cases c6 : 2 ≤ 3
        · rw [if_pos c6] at H
          have c6b0 := eq_true c6
          have c6b1 : decide (2 ≤ 3) = true := decide_eq_true c6
          clear c6
          by_cases c7 : 3 ≤ (a0.size : Int)
          · rw [if_pos c7] at H
            have c7b0 := eq_true c7
            have c7b1 : decide (3 ≤ (a0.size : Int)) = true := decide_eq_true c7
            clear c7
            by_cases c8 : (a0.extract 0 1).size + (a0.extract 2 3).size ≤ 9223372036854775807
            · rw [if_pos c8] at H
              have c8b0 := eq_true c8
              have c8b1 : decide ((a0.extract 0 1).size + (a0.extract 2 3).size ≤ 9223372036854775807) = true := decide_eq_true c8
              try have c8b2 : (9223372036854775807 < (a0.extract 0 1).size + (a0.extract 2 3).size) = False := eq_false (Nat.not_lt.2 c8)
              try have c8b3 : (9223372036854775807 < (a0.extract 0 1).size + (a0.extract 2 3).size) = False := eq_false (by (try simp only [eq_iff_iff, iff_true] at *); (try simp only [ByteArray.size_append, ByteArray.size_extract] at *); (try simp only [ByteArray.size, List.size_toArray, List.length_cons, List.length_nil] at *); omega)
              obtain rfl := Option.some.inj H
              go_enter Try.func95, Try.ntmps95
              go_wp2_with (first | (go_at_call 74; (with_reducible refine (spec_tmKind.calls k a0 t135 _ A2.out).mono ?_); rintro e w' ⟨rfl, ⟨nd, rfl⟩⟩; (try first | exact ⟨rfl, _, World.drewN_drewN _ _ _⟩ | exact ⟨rfl, _, Eq.trans (World.drewN_drewN _ _ _) (congrArg (World.drewN _) (Nat.add_assoc _ _ _))⟩)))
              repeat (go_quiet (first | (go_at_call 74; (with_reducible refine (spec_tmKind.calls k a0 t135 _ A2.out).mono ?_); rintro e w' ⟨rfl, ⟨nd, rfl⟩⟩; (try first | exact ⟨rfl, _, World.drewN_drewN _ _ _⟩ | exact ⟨rfl, _, Eq.trans (World.drewN_drewN _ _ _) (congrArg (World.drewN _) (Nat.add_assoc _ _ _))⟩))); try go_wp2_with (first | (go_at_call 74; (with_reducible refine (spec_tmKind.calls k a0 t135 _ A2.out).mono ?_); rintro e w' ⟨rfl, ⟨nd, rfl⟩⟩; (try first | exact ⟨rfl, _, World.drewN_drewN _ _ _⟩ | exact ⟨rfl, _, Eq.trans (World.drewN_drewN _ _ _) (congrArg (World.drewN _) (Nat.add_assoc _ _ _))⟩))))
              go_ret
              exact ⟨by first | rfl | (simp; done) | (simp [*]; done), by repeat (first | exact Drawn0.refl _ | apply Drawn0.step)⟩
            · rw [if_neg c8] at H
              exact absurd H (by simp)
          · rw [if_neg c7] at H
            exact absurd H (by simp)
        · rw [if_neg c6] at H
          exact absurd H (by simp)
      · rw [if_neg c5] at H
        exact absurd H (by simp)
    · rw [if_neg c4] at H
      exact absurd H (by simp)
  · rw [if_neg c3] at H
    have c3b0 : (t135 == 33) = false := beq_eq_false_iff_ne.mpr c3
    have c3b1 : (t135 != 33) = true := bne_iff_ne.mpr c3
    by_cases c9 : t135 = 63
    · rw [if_pos c9] at H
      have c9b0 : (t135 == 63) = true := beq_iff_eq.mpr c9
      have c9b1 : (t135 != 63) = false := bne_eq_false_iff_eq.mpr c9
      clear c9
      by_cases c10 : 0 ≤ 1
      · rw [if_pos c10] at H
        have c10b0 := eq_true c10
        have c10b1 : decide (0 ≤ 1) = true := decide_eq_true c10
        clear c10
        by_cases c11 : 1 ≤ (a0.size : Int)
        · rw [if_pos c11] at H
          have c11b0 := eq_true c11
          have c11b1 : decide (1 ≤ (a0.size : Int)) = true := decide_eq_true c11
          clear c11
          obtain rfl := Option.some.inj H
          go_enter Try.func95, Try.ntmps95
          go_wp2_with (first | (go_at_call 74; (with_reducible refine (spec_tmKind.calls k a0 t135 _ A2.out).mono ?_); rintro e w' ⟨rfl, ⟨nd, rfl⟩⟩; (try first | exact ⟨rfl, _, World.drewN_drewN _ _ _⟩ | exact ⟨rfl, _, Eq.trans (World.drewN_drewN _ _ _) (congrArg (World.drewN _) (Nat.add_assoc _ _ _))⟩)))
          repeat (go_quiet (first | (go_at_call 74; (with_reducible refine (spec_tmKind.calls k a0 t135 _ A2.out).mono ?_); rintro e w' ⟨rfl, ⟨nd, rfl⟩⟩; (try first | exact ⟨rfl, _, World.drewN_drewN _ _ _⟩ | exact ⟨rfl, _, Eq.trans (World.drewN_drewN _ _ _) (congrArg (World.drewN _) (Nat.add_assoc _ _ _))⟩))); try go_wp2_with (first | (go_at_call 74; (with_reducible refine (spec_tmKind.calls k a0 t135 _ A2.out).mono ?_); rintro e w' ⟨rfl, ⟨nd, rfl⟩⟩; (try first | exact ⟨rfl, _, World.drewN_drewN _ _ _⟩ | exact ⟨rfl, _, Eq.trans (World.drewN_drewN _ _ _) (congrArg (World.drewN _) (Nat.add_assoc _ _ _))⟩))))
          go_ret
          exact ⟨by first | rfl | (simp; done) | (simp [*]; done), by repeat (first | exact Drawn0.refl _ | apply Drawn0.step)⟩
        · rw [if_neg c11] at H
          exact absurd H (by simp)
      · rw [if_neg c10] at H
        exact absurd H (by simp)
    · rw [if_neg c9] at H
      have c9b0 : (t135 == 63) = false := beq_eq_false_iff_ne.mpr c9
      have c9b1 : (t135 != 63) = true := bne_iff_ne.mpr c9
      by_cases c12 : t135 = 61
      · rw [if_pos c12] at H
        have c12b0 : (t135 == 61) = true := beq_iff_eq.mpr c12
        have c12b1 : (t135 != 61) = false := bne_eq_false_iff_eq.mpr c12
        clear c12
        by_cases c13 : 1 ≤ 2
        · rw [if_pos c13] at H
          have c13b0 := eq_true c13
          have c13b1 : decide (1 ≤ 2) = true := decide_eq_true c13
          clear c13
          by_cases c14 : 2 ≤ (a0.size : Int)
          · rw [if_pos c14] at H
            have c14b0 := eq_true c14
            have c14b1 : decide (2 ≤ (a0.size : Int)) = true := decide_eq_true c14
            clear c14
            by_cases c15 : 3 ≤ 4
            · rw [if_pos c15] at H
              have c15b0 := eq_true c15
              have c15b1 : decide (3 ≤ 4) = true := decide_eq_true c15
              clear c15
              by_cases c16 : 4 ≤ (a0.size : Int)
              · rw [if_pos c16] at H
                have c16b0 := eq_true c16
                have c16b1 : decide (4 ≤ (a0.size : Int)) = true := decide_eq_true c16
                clear c16
                by_cases c17 : (a0.extract 1 2).size + (a0.extract 3 4).size ≤ 9223372036854775807
                · rw [if_pos c17] at H
                  have c17b0 := eq_true c17
                  have c17b1 : decide ((a0.extract 1 2).size + (a0.extract 3 4).size ≤ 9223372036854775807) = true := decide_eq_true c17
                  try have c17b2 : (9223372036854775807 < (a0.extract 1 2).size + (a0.extract 3 4).size) = False := eq_false (Nat.not_lt.2 c17)
                  try have c17b3 : (9223372036854775807 < (a0.extract 1 2).size + (a0.extract 3 4).size) = False := eq_false (by (try simp only [eq_iff_iff, iff_true] at *); (try simp only [ByteArray.size_append, ByteArray.size_extract] at *); (try simp only [ByteArray.size, List.size_toArray, List.length_cons, List.length_nil] at *); omega)
                  obtain rfl := Option.some.inj H
                  go_enter Try.func95, Try.ntmps95
                  go_wp2_with (first | (go_at_call 74; (with_reducible refine (spec_tmKind.calls k a0 t135 _ A2.out).mono ?_); rintro e w' ⟨rfl, ⟨nd, rfl⟩⟩; (try first | exact ⟨rfl, _, World.drewN_drewN _ _ _⟩ | exact ⟨rfl, _, Eq.trans (World.drewN_drewN _ _ _) (congrArg (World.drewN _) (Nat.add_assoc _ _ _))⟩)))
                  repeat (go_quiet (first | (go_at_call 74; (with_reducible refine (spec_tmKind.calls k a0 t135 _ A2.out).mono ?_); rintro e w' ⟨rfl, ⟨nd, rfl⟩⟩; (try first | exact ⟨rfl, _, World.drewN_drewN _ _ _⟩ | exact ⟨rfl, _, Eq.trans (World.drewN_drewN _ _ _) (congrArg (World.drewN _) (Nat.add_assoc _ _ _))⟩))); try go_wp2_with (first | (go_at_call 74; (with_reducible refine (spec_tmKind.calls k a0 t135 _ A2.out).mono ?_); rintro e w' ⟨rfl, ⟨nd, rfl⟩⟩; (try first | exact ⟨rfl, _, World.drewN_drewN _ _ _⟩ | exact ⟨rfl, _, Eq.trans (World.drewN_drewN _ _ _) (congrArg (World.drewN _) (Nat.add_assoc _ _ _))⟩))))
                  go_ret
                  exact ⟨by first | rfl | (simp; done) | (simp [*]; done), by repeat (first | exact Drawn0.refl _ | apply Drawn0.step)⟩
                · rw [if_neg c17] at H
                  exact absurd H (by simp)
              · rw [if_neg c16] at H
                exact absurd H (by simp)
            · rw [if_neg c15] at H
              exact absurd H (by simp)
          · rw [if_neg c14] at H
            exact absurd H (by simp)
        · rw [if_neg c13] at H
          exact absurd H (by simp)
      · rw [if_neg c12] at H
        have c12b0 : (t135 == 61) = false := beq_eq_false_iff_ne.mpr c12
        have c12b1 : (t135 != 61) = true := bne_iff_ne.mpr c12
        obtain rfl := Option.some.inj H
        go_enter Try.func95, Try.ntmps95
        go_wp2_with (first | (go_at_call 74; (with_reducible refine (spec_tmKind.calls k a0 t135 _ A2.out).mono ?_); rintro e w' ⟨rfl, ⟨nd, rfl⟩⟩; (try first | exact ⟨rfl, _, World.drewN_drewN _ _ _⟩ | exact ⟨rfl, _, Eq.trans (World.drewN_drewN _ _ _) (congrArg (World.drewN _) (Nat.add_assoc _ _ _))⟩)))
        repeat (go_quiet (first | (go_at_call 74; (with_reducible refine (spec_tmKind.calls k a0 t135 _ A2.out).mono ?_); rintro e w' ⟨rfl, ⟨nd, rfl⟩⟩; (try first | exact ⟨rfl, _, World.drewN_drewN _ _ _⟩ | exact ⟨rfl, _, Eq.trans (World.drewN_drewN _ _ _) (congrArg (World.drewN _) (Nat.add_assoc _ _ _))⟩))); try go_wp2_with (first | (go_at_call 74; (with_reducible refine (spec_tmKind.calls k a0 t135 _ A2.out).mono ?_); rintro e w' ⟨rfl, ⟨nd, rfl⟩⟩; (try first | exact ⟨rfl, _, World.drewN_drewN _ _ _⟩ | exact ⟨rfl, _, Eq.trans (World.drewN_drewN _ _ _) (congrArg (World.drewN _) (Nat.add_assoc _ _ _))⟩))))
        go_ret
        exact ⟨by first | rfl | (simp; done) | (simp [*]; done), by repeat (first | exact Drawn0.refl _ | apply Drawn0.step)⟩

/-! ### spec_tmSamePlace: function 96 -/
def spec_tmSamePlace.l0 : Nat → Int → Int → ByteArray → ByteArray → Int → Option (Bool)
  | 0, _, _, _, _, _ => none
  | k + 1, x0, x1, x2, x3, x9 => if x9 < (x2.size : Int) then (if 0 ≤ x9 then (if (bt x2 x9) = x0 then (if x9 < (x3.size : Int) then (some ((bt x3 x9) == x1)) else (none)) else (if x9 < (x3.size : Int) then (if (bt x3 x9) = x1 then (some false) else (spec_tmSamePlace.l0 k x0 x1 x2 x3 (wrap64 (x9 + 1)))) else (none))) else (none)) else (some (x0 == x1))
def spec_tmSamePlace.f (k : Nat) (a0 : Int) (a1 : Int) (a2 : ByteArray) (a3 : ByteArray) : Option (Bool) := spec_tmSamePlace.l0 k a0 a1 a2 a3 0
theorem spec_tmSamePlace.mono_l : ∀ k, (∀ y0 y1 y2 y3 y4, LeO (spec_tmSamePlace.l0 k y0 y1 y2 y3 y4) (spec_tmSamePlace.l0 (k + 1) y0 y1 y2 y3 y4))
  | 0 => fun _ _ _ _ _ r h => by simp [spec_tmSamePlace.l0] at h
  | k + 1 => by
    have ih0 := spec_tmSamePlace.mono_l k
    · intro y0 y1 y2 y3 y4
      unfold spec_tmSamePlace.l0
      repeat' first
      | (with_reducible exact ih0 _ _ _ _ _)
      | (with_reducible exact LeO.refl _)
      | (with_reducible exact LeO.none _)
      | (with_reducible refine LeO.ite ?_ ?_)
      | (with_reducible refine LeO.bind ?_ (fun _ => ?_))
      | exact ih0 _ _ _ _ _
      | exact LeO.none _
      | refine LeO.ite ?_ ?_
      | refine LeO.bind ?_ (fun _ => ?_)
theorem spec_tmSamePlace.mono : ∀ a0 a1 a2 a3 k, LeO (spec_tmSamePlace.f k a0 a1 a2 a3) (spec_tmSamePlace.f (k + 1) a0 a1 a2 a3) := by
  intro a0 a1 a2 a3 k
  have ih0 := spec_tmSamePlace.mono_l k
  unfold spec_tmSamePlace.f
  repeat' first
      | (with_reducible exact ih0 _ _ _ _ _)
      | (with_reducible exact LeO.refl _)
      | (with_reducible exact LeO.none _)
      | (with_reducible refine LeO.ite ?_ ?_)
      | (with_reducible refine LeO.bind ?_ (fun _ => ?_))
      | exact ih0 _ _ _ _ _
      | exact LeO.none _
      | refine LeO.ite ?_ ?_
      | refine LeO.bind ?_ (fun _ => ?_)
set_option maxHeartbeats 8000000 in
set_option maxRecDepth 100000 in
theorem spec_tmSamePlace.calls (k : Nat) (a0 : Int) (a1 : Int) (a2 : ByteArray) (a3 : ByteArray) (r : Bool) (w : World) (h : spec_tmSamePlace.f k a0 a1 a2 a3 = some r) :
    Calls Try.prog 96 #[.int .u8 a0, .int .u8 a1, .string a2, .string a3] w fun e w' => e = .returned (.bool r) ∧ Drawn0 w w' := by
  have H : (spec_tmSamePlace.l0 k a0 a1 a2 a3 0) = some r := h
  clear h
  have H' := Aside0.mk H
  clear H
  go_enter Try.func96, Try.ntmps96
  go_wp2
  go_loopg [9] k (fun kq v9 w' => ∃ (x9_1 : Int), v9 = .int .i64 x9_1 ∧ Aside0 (spec_tmSamePlace.l0 kq a0 a1 a2 a3 x9_1 = some r) ∧ Aside0 (kq ≤ k) ∧ Drawn0 w w')
  case atStart => exact ⟨(0), (by first | rfl | (simp; done) | (simp [*]; done)), H', ⟨Nat.le_refl _⟩, by repeat (first | exact Drawn0.refl _ | apply Drawn0.step)⟩
  case round =>
    clear H'
    try clear p2
    obtain ⟨x9_1, rfl, HA, HK1, ⟨m1, rfl⟩⟩ := hrel
    cases gk with
    | zero => exact absurd HA.out (by simp [spec_tmSamePlace.l0])
    | succ k1 =>
      have H := HA.out
      clear HA
      simp only [spec_tmSamePlace.l0] at H
      by_cases c5 : x9_1 < (a2.size : Int)
      · rw [if_pos c5] at H
        have c5b0 : decide (x9_1 < (a2.size : Int)) = true := decide_eq_true c5
        clear c5
        by_cases c6 : 0 ≤ x9_1
        · rw [if_pos c6] at H
          have c6b0 : decide (0 ≤ x9_1) = true := decide_eq_true c6
          clear c6
          by_cases c8 : (bt a2 x9_1) = a0
          · rw [if_pos c8] at H
            have c8b0 : ((bt a2 x9_1) == a0) = true := beq_iff_eq.mpr c8
            have c8b1 : ((bt a2 x9_1) != a0) = false := bne_eq_false_iff_eq.mpr c8
            clear c8
            by_cases c10 : x9_1 < (a3.size : Int)
            · rw [if_pos c10] at H
              have c10b0 : decide (x9_1 < (a3.size : Int)) = true := decide_eq_true c10
              clear c10
              obtain rfl := Option.some.inj H
              have p7 : 0 ≤ (x9_1 : Int) := of_decide_eq_true (by first | (with_reducible assumption) | assumption)
              have q7 : x9_1 < (a2.size : Int) := of_decide_eq_true (by first | (with_reducible assumption) | assumption)
              have hx7 := bt_at a2 x9_1
              replace p7 := eq_true p7
              replace q7 := eq_true q7
              have p9 : 0 ≤ (x9_1 : Int) := of_decide_eq_true (by first | (with_reducible assumption) | assumption)
              have q9 : x9_1 < (a2.size : Int) := of_decide_eq_true (by first | (with_reducible assumption) | assumption)
              have hx9 := bt_at a2 x9_1
              replace p9 := eq_true p9
              replace q9 := eq_true q9
              have p11 : 0 ≤ (x9_1 : Int) := of_decide_eq_true (by first | (with_reducible assumption) | assumption)
              have q11 : x9_1 < (a3.size : Int) := of_decide_eq_true (by first | (with_reducible assumption) | assumption)
              have hx11 := bt_at a3 x9_1
              replace p11 := eq_true p11
              replace q11 := eq_true q11
              go_wp2
              go_ret
              exact ⟨by first | rfl | (simp; done) | (simp [*]; done), by repeat (first | exact Drawn0.refl _ | apply Drawn0.step)⟩
            · rw [if_neg c10] at H
              exact absurd H (by simp)
          · rw [if_neg c8] at H
            have c8b0 : ((bt a2 x9_1) == a0) = false := beq_eq_false_iff_ne.mpr c8
            have c8b1 : ((bt a2 x9_1) != a0) = true := bne_iff_ne.mpr c8
            by_cases c12 : x9_1 < (a3.size : Int)
            · rw [if_pos c12] at H
              have c12b0 : decide (x9_1 < (a3.size : Int)) = true := decide_eq_true c12
              clear c12
              by_cases c14 : (bt a3 x9_1) = a1
              · rw [if_pos c14] at H
                have c14b0 : ((bt a3 x9_1) == a1) = true := beq_iff_eq.mpr c14
                have c14b1 : ((bt a3 x9_1) != a1) = false := bne_eq_false_iff_eq.mpr c14
                clear c14
                obtain rfl := Option.some.inj H
                have p7 : 0 ≤ (x9_1 : Int) := of_decide_eq_true (by first | (with_reducible assumption) | assumption)
                have q7 : x9_1 < (a2.size : Int) := of_decide_eq_true (by first | (with_reducible assumption) | assumption)
                have hx7 := bt_at a2 x9_1
                replace p7 := eq_true p7
                replace q7 := eq_true q7
                have p13 : 0 ≤ (x9_1 : Int) := of_decide_eq_true (by first | (with_reducible assumption) | assumption)
                have q13 : x9_1 < (a3.size : Int) := of_decide_eq_true (by first | (with_reducible assumption) | assumption)
                have hx13 := bt_at a3 x9_1
                replace p13 := eq_true p13
                replace q13 := eq_true q13
                have p15 : 0 ≤ (x9_1 : Int) := of_decide_eq_true (by first | (with_reducible assumption) | assumption)
                have q15 : x9_1 < (a2.size : Int) := of_decide_eq_true (by first | (with_reducible assumption) | assumption)
                have hx15 := bt_at a2 x9_1
                replace p15 := eq_true p15
                replace q15 := eq_true q15
                go_wp2
                go_ret
                exact ⟨by first | rfl | (simp; done) | (simp [*]; done), by repeat (first | exact Drawn0.refl _ | apply Drawn0.step)⟩
              · rw [if_neg c14] at H
                have c14b0 : ((bt a3 x9_1) == a1) = false := beq_eq_false_iff_ne.mpr c14
                have c14b1 : ((bt a3 x9_1) != a1) = true := bne_iff_ne.mpr c14
                have H' := Aside0.mk H
                clear H
                have p7 : 0 ≤ (x9_1 : Int) := of_decide_eq_true (by first | (with_reducible assumption) | assumption)
                have q7 : x9_1 < (a2.size : Int) := of_decide_eq_true (by first | (with_reducible assumption) | assumption)
                have hx7 := bt_at a2 x9_1
                replace p7 := eq_true p7
                replace q7 := eq_true q7
                have p13 : 0 ≤ (x9_1 : Int) := of_decide_eq_true (by first | (with_reducible assumption) | assumption)
                have q13 : x9_1 < (a3.size : Int) := of_decide_eq_true (by first | (with_reducible assumption) | assumption)
                have hx13 := bt_at a3 x9_1
                replace p13 := eq_true p13
                replace q13 := eq_true q13
                go_wp2
                go_roundg k1
                case measure => have := HK1.out; omega
                case rel => exact ⟨(wrap64 (x9_1 + 1)), (by first | rfl | (simp; done) | (simp [*]; done)), H', ⟨by have := HK1.out; omega⟩, by repeat (first | exact Drawn0.refl _ | apply Drawn0.step)⟩
            · rw [if_neg c12] at H
              exact absurd H (by simp)
        · rw [if_neg c6] at H
          exact absurd H (by simp)
      · rw [if_neg c5] at H
        have c5b0 : decide (x9_1 < (a2.size : Int)) = false := decide_eq_false c5
        clear c5
        obtain rfl := Option.some.inj H
        go_wp2
        go_ret
        exact ⟨by first | rfl | (simp; done) | (simp [*]; done), by repeat (first | exact Drawn0.refl _ | apply Drawn0.step)⟩

end Go.Proofs.Ytjinjanjjecmiaa.PAreAlpha
