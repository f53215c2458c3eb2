-- PRINTED BY print.sh 35421559b90ae4d0a3588c463048766b98c2df88dd9212a6774a882060cdf62d: not written by this session
import Derived.Test.YtjinjanjjecmiaaPReadCellx0
import Derived.Test.YtjinjanjjecmiaaPReadCellx1
import Derived.Test.YtjinjanjjecmiaaPReadCellx2
import Derived.Test.YtjinjanjjecmiaaPReadCellx3
namespace Go.Proofs.Ytjinjanjjecmiaa.PReadCell
open Go.RowKit Go.Proofs.YtjinjanjjecmiaaW.PrintWords Go.Proofs.YtjinjanjjecmiaaW.PrintLast Go.Proofs.YtjinjanjjecmiaaW.PrintMore
attribute [local go_sem] max2_int min2_int max_two min_two max_three min_three max_four min_four   -- for this text's walks alone
set_option linter.unusedVariables false
set_option linter.unusedSimpArgs false

/-! ### spec_tmGood: function 43 -/
def spec_tmGood.f (k : Nat) (a0 : ByteArray) : Option (Bool) := if (a0.size : Int) ≤ 300 then ((spec_tmSmall.f k a0).bind fun t131 => (if t131 = true then ((spec_tmEnd.f k a0 0).bind fun t132 => (if t132 = (a0.size : Int) then ((spec_tmSize.f k a0).bind fun t133 => (some (decide (t133 ≤ 60)))) else (some false))) else (some false))) else (some false)
theorem spec_tmGood.mono : ∀ a0 k, LeO (spec_tmGood.f k a0) (spec_tmGood.f (k + 1) a0) := by
  intro a0 k
  unfold spec_tmGood.f
  repeat' first
      | (with_reducible exact spec_tmEnd.mono _ _ _)
      | (with_reducible exact spec_tmSize.mono _ _)
      | (with_reducible exact spec_tmSmall.mono _ _)
      | (with_reducible exact LeO.refl _)
      | (with_reducible exact LeO.none _)
      | (with_reducible refine LeO.ite ?_ ?_)
      | (with_reducible refine LeO.bind ?_ (fun _ => ?_))
      | exact spec_tmEnd.mono _ _ _
      | exact spec_tmSize.mono _ _
      | exact spec_tmSmall.mono _ _
      | exact LeO.none _
      | refine LeO.ite ?_ ?_
      | refine LeO.bind ?_ (fun _ => ?_)
set_option maxHeartbeats 8000000 in
set_option maxRecDepth 100000 in
theorem spec_tmGood.calls (k : Nat) (a0 : ByteArray) (r : Bool) (w : World) (h : spec_tmGood.f k a0 = some r) :
    Calls Try.prog 43 #[.string a0] w fun e w' => e = .returned (.bool r) ∧ Below w.heap.size w w' := by
  have HB := Aside0.mk (Below.refl w.heap.size w)
  have H : (if (a0.size : Int) ≤ 300 then ((spec_tmSmall.f k a0).bind fun t131 => (if t131 = true then ((spec_tmEnd.f k a0 0).bind fun t132 => (if t132 = (a0.size : Int) then ((spec_tmSize.f k a0).bind fun t133 => (some (decide (t133 ≤ 60)))) else (some false))) else (some false))) else (some false)) = some r := h
  clear h
  by_cases c2 : (a0.size : Int) ≤ 300
  · rw [if_pos c2] at H
    have c2b0 : decide ((a0.size : Int) ≤ 300) = true := decide_eq_true c2
    have c2b1 : decide (a0.size ≤ 300) = true := decide_eq_true (by omega)
    clear c2
    replace H := Option.bind_eq_some_iff.mp H
    obtain ⟨t131, A30, H⟩ := H
    replace H : (if t131 = true then ((spec_tmEnd.f k a0 0).bind fun t132 => (if t132 = (a0.size : Int) then ((spec_tmSize.f k a0).bind fun t133 => (some (decide (t133 ≤ 60)))) else (some false))) else (some false)) = some r := H
    have A3 := Aside0.mk A30
    clear A30
    by_cases c4 : t131 = true
    · subst c4
      have H1 : ((spec_tmEnd.f k a0 0).bind fun t132 => (if t132 = (a0.size : Int) then ((spec_tmSize.f k a0).bind fun t133 => (some (decide (t133 ≤ 60)))) else (some false))) = some r := by rw [if_pos rfl] at H; exact H
      clear H
      have H := H1
      clear H1
      replace H := Option.bind_eq_some_iff.mp H
      obtain ⟨t132, A50, H⟩ := H
      replace H : (if t132 = (a0.size : Int) then ((spec_tmSize.f k a0).bind fun t133 => (some (decide (t133 ≤ 60)))) else (some false)) = some r := H
      have A5 := Aside0.mk A50
      clear A50
      by_cases c6 : t132 = (a0.size : Int)
      · rw [if_pos c6] at H
        have c6b0 : (t132 == (a0.size : Int)) = true := beq_iff_eq.mpr c6
        have c6b1 : (t132 != (a0.size : Int)) = false := bne_eq_false_iff_eq.mpr c6
        clear c6
        replace H := Option.bind_eq_some_iff.mp H
        obtain ⟨t133, A70, H⟩ := H
        replace H : (some (decide (t133 ≤ 60))) = some r := H
        have A7 := Aside0.mk A70
        clear A70
        obtain rfl := Option.some.inj H
        go_enter Try.func43, Try.ntmps43
        go_wp2_with (first | (go_at_call 75; (with_reducible refine (spec_tmSmall.calls k a0 true _ A3.out).mono ?_); rintro e w' ⟨rfl, ⟨nd, rfl⟩⟩) | (go_at_call 76; (with_reducible refine (spec_tmEnd.calls k a0 0 t132 _ A5.out).mono ?_); rintro e w' ⟨rfl, ⟨nd, rfl⟩⟩) | (go_at_call 77; (with_reducible refine (spec_tmSize.calls k a0 t133 _ A7.out).mono ?_); rintro e w8 ⟨rfl, hb⟩; have n0_ := Aside0.mk (below_step (by repeat (first | (with_reducible first | exact HB.out | apply below_alloc | apply pw_below_drewN | apply below_drew1) | exact HB.out)) hb); clear HB; have HB := n0_; clear n0_; (try clear hb); (try clear hb2); (try clear hk); (try clear hi)))
        go_ret
        exact ⟨by first | rfl | (simp [errW_none, errW_some] <;> rfl) | (simp [*, errW_none, errW_some] <;> rfl), by repeat (first | (with_reducible first | exact HB.out | apply below_alloc | apply pw_below_drewN | apply below_drew1) | exact HB.out)⟩
      · rw [if_neg c6] at H
        have c6b0 : (t132 == (a0.size : Int)) = false := beq_eq_false_iff_ne.mpr c6
        have c6b1 : (t132 != (a0.size : Int)) = true := bne_iff_ne.mpr c6
        obtain rfl := Option.some.inj H
        go_enter Try.func43, Try.ntmps43
        go_wp2_with (first | (go_at_call 75; (with_reducible refine (spec_tmSmall.calls k a0 true _ A3.out).mono ?_); rintro e w' ⟨rfl, ⟨nd, rfl⟩⟩) | (go_at_call 76; (with_reducible refine (spec_tmEnd.calls k a0 0 t132 _ A5.out).mono ?_); rintro e w' ⟨rfl, ⟨nd, rfl⟩⟩))
        go_ret
        exact ⟨by first | rfl | (simp [errW_none, errW_some] <;> rfl) | (simp [*, errW_none, errW_some] <;> rfl), by repeat (first | (with_reducible first | exact HB.out | apply below_alloc | apply pw_below_drewN | apply below_drew1) | exact HB.out)⟩
    · replace c4 := Bool.eq_false_iff.mpr c4
      subst c4
      have H1 : (some false) = some r := by rw [if_neg (show ¬ (false = true) by decide)] at H; exact H
      clear H
      have H := H1
      clear H1
      obtain rfl := Option.some.inj H
      go_enter Try.func43, Try.ntmps43
      go_wp2_with (first | (go_at_call 75; (with_reducible refine (spec_tmSmall.calls k a0 false _ A3.out).mono ?_); rintro e w' ⟨rfl, ⟨nd, rfl⟩⟩))
      go_ret
      exact ⟨by first | rfl | (simp [errW_none, errW_some] <;> rfl) | (simp [*, errW_none, errW_some] <;> rfl), by repeat (first | (with_reducible first | exact HB.out | apply below_alloc | apply pw_below_drewN | apply below_drew1) | exact HB.out)⟩
  · rw [if_neg c2] at H
    have c2b0 : decide ((a0.size : Int) ≤ 300) = false := decide_eq_false c2
    have c2b1 : decide (a0.size ≤ 300) = false := decide_eq_false (by omega)
    clear c2
    obtain rfl := Option.some.inj H
    go_enter Try.func43, Try.ntmps43
    go_wp2
    go_ret
    exact ⟨by first | rfl | (simp [errW_none, errW_some] <;> rfl) | (simp [*, errW_none, errW_some] <;> rfl), by repeat (first | (with_reducible first | exact HB.out | apply below_alloc | apply pw_below_drewN | apply below_drew1) | exact HB.out)⟩

/-! ### spec_tmIf: function 44 -/
def spec_tmIf.f (k : Nat) (a0 : ByteArray) : Option (ByteArray × Bool) := (spec_tmGood.f k a0).bind fun t134 => (if t134 = true then (some (a0, true)) else (some ((⟨#[]⟩ : ByteArray), false)))
theorem spec_tmIf.mono : ∀ a0 k, LeO (spec_tmIf.f k a0) (spec_tmIf.f (k + 1) a0) := by
  intro a0 k
  unfold spec_tmIf.f
  repeat' first
      | (with_reducible exact spec_tmGood.mono _ _)
      | (with_reducible exact LeO.refl _)
      | (with_reducible exact LeO.none _)
      | (with_reducible refine LeO.ite ?_ ?_)
      | (with_reducible refine LeO.bind ?_ (fun _ => ?_))
      | exact spec_tmGood.mono _ _
      | exact LeO.none _
      | refine LeO.ite ?_ ?_
      | refine LeO.bind ?_ (fun _ => ?_)
set_option maxHeartbeats 8000000 in
set_option maxRecDepth 100000 in
theorem spec_tmIf.calls (k : Nat) (a0 : ByteArray) (r1 : ByteArray) (r2 : Bool) (w : World) (h : spec_tmIf.f k a0 = some (r1, r2)) :
    Calls Try.prog 44 #[.string a0] w fun e w' => e = .returned (.tuple #[.string r1, .bool r2]) ∧ Below w.heap.size w w' := by
  have HB := Aside0.mk (Below.refl w.heap.size w)
  have H : ((spec_tmGood.f k a0).bind fun t134 => (if t134 = true then (some (a0, true)) else (some ((⟨#[]⟩ : ByteArray), false)))) = some (r1, r2) := h
  clear h
  replace H := Option.bind_eq_some_iff.mp H
  obtain ⟨t134, A20, H⟩ := H
  replace H : (if t134 = true then (some (a0, true)) else (some ((⟨#[]⟩ : ByteArray), false))) = some (r1, r2) := H
  have A2 := Aside0.mk A20
  clear A20
  by_cases c3 : t134 = true
  · subst c3
    have H1 : (some (a0, true)) = some (r1, r2) := by rw [if_pos rfl] at H; exact H
    clear H
    have H := H1
    clear H1
    simp only [Option.some.injEq, Prod.mk.injEq] at H
    obtain ⟨rfl, rfl⟩ := H
    go_enter Try.func44, Try.ntmps44
    go_wp2_with (first | ((with_reducible refine gate_callee (f := 43) rfl ?_); refine goesL_ (some 5) rfl rfl Try.func43 (by kernel_rfl) rfl #[.string a0] rfl (by (try simp only [List.map_toArray, List.map_cons, List.map_nil]); first | done | rfl | (simp only [List.length_drop, List.length_take]; rfl)) ?_; (with_reducible refine (spec_tmGood.calls k a0 true _ A2.out).mono ?_); rintro e w4 ⟨rfl, hb⟩; refine ⟨_, rfl, ?_⟩; have n0_ := Aside0.mk (below_step (by repeat (first | (with_reducible first | exact HB.out | apply below_alloc | apply pw_below_drewN | apply below_drew1) | exact HB.out)) hb); clear HB; have HB := n0_; clear n0_; (try clear hb); (try clear hb2); (try clear hk); (try clear hi)))
    go_ret2
    exact ⟨by first | rfl | (simp [errW_none, errW_some] <;> rfl) | (simp [*, errW_none, errW_some] <;> rfl), by repeat (first | (with_reducible first | exact HB.out | apply below_alloc | apply pw_below_drewN | apply below_drew1) | exact HB.out)⟩
  · replace c3 := Bool.eq_false_iff.mpr c3
    subst c3
    have H1 : (some ((⟨#[]⟩ : ByteArray), false)) = some (r1, r2) := by rw [if_neg (show ¬ (false = true) by decide)] at H; exact H
    clear H
    have H := H1
    clear H1
    simp only [Option.some.injEq, Prod.mk.injEq] at H
    obtain ⟨rfl, rfl⟩ := H
    go_enter Try.func44, Try.ntmps44
    go_wp2_with (first | ((with_reducible refine gate_callee (f := 43) rfl ?_); refine goesL_ (some 5) rfl rfl Try.func43 (by kernel_rfl) rfl #[.string a0] rfl (by (try simp only [List.map_toArray, List.map_cons, List.map_nil]); first | done | rfl | (simp only [List.length_drop, List.length_take]; rfl)) ?_; (with_reducible refine (spec_tmGood.calls k a0 false _ A2.out).mono ?_); rintro e w5 ⟨rfl, hb⟩; refine ⟨_, rfl, ?_⟩; have n0_ := Aside0.mk (below_step (by repeat (first | (with_reducible first | exact HB.out | apply below_alloc | apply pw_below_drewN | apply below_drew1) | exact HB.out)) hb); clear HB; have HB := n0_; clear n0_; (try clear hb); (try clear hb2); (try clear hk); (try clear hi)))
    go_ret2
    exact ⟨by first | rfl | (simp [errW_none, errW_some] <;> rfl) | (simp [*, errW_none, errW_some] <;> rfl), by repeat (first | (with_reducible first | exact HB.out | apply below_alloc | apply pw_below_drewN | apply below_drew1) | exact HB.out)⟩

/-! ### spec_ReadCell: function 15 -/
def spec_ReadCell.f (k : Nat) (a0 : ByteArray) (a1 : ByteArray) (a2 : ByteArray) : Option (ByteArray × Bool) := (spec_tmOne.f a0).bind fun t135 => (if t135 = true then ((spec_tmOne.f a1).bind fun t136 => (if t136 = true then (if a0.toList = a1.toList then (some ((⟨#[]⟩ : ByteArray), false)) else ((spec_tmGood.f k a2).bind fun t137 => (if t137 = true then (if a0.size + 1 ≤ 9223372036854775807 then (if (a0 ++ (⟨#[63]⟩ : ByteArray)).size + a1.size ≤ 9223372036854775807 then (if ((a0 ++ (⟨#[63]⟩ : ByteArray)) ++ a1).size + 2 ≤ 9223372036854775807 then (if (((a0 ++ (⟨#[63]⟩ : ByteArray)) ++ a1) ++ (⟨#[46, 40]⟩ : ByteArray)).size + a0.size ≤ 9223372036854775807 then (if ((((a0 ++ (⟨#[63]⟩ : ByteArray)) ++ a1) ++ (⟨#[46, 40]⟩ : ByteArray)) ++ a0).size + 1 ≤ 9223372036854775807 then (if (((((a0 ++ (⟨#[63]⟩ : ByteArray)) ++ a1) ++ (⟨#[46, 40]⟩ : ByteArray)) ++ a0) ++ (⟨#[33]⟩ : ByteArray)).size + a1.size ≤ 9223372036854775807 then (if ((((((a0 ++ (⟨#[63]⟩ : ByteArray)) ++ a1) ++ (⟨#[46, 40]⟩ : ByteArray)) ++ a0) ++ (⟨#[33]⟩ : ByteArray)) ++ a1).size + 3 ≤ 9223372036854775807 then (if (((((((a0 ++ (⟨#[63]⟩ : ByteArray)) ++ a1) ++ (⟨#[46, 40]⟩ : ByteArray)) ++ a0) ++ (⟨#[33]⟩ : ByteArray)) ++ a1) ++ (⟨#[46, 48, 38]⟩ : ByteArray)).size + a2.size ≤ 9223372036854775807 then (if ((((((((a0 ++ (⟨#[63]⟩ : ByteArray)) ++ a1) ++ (⟨#[46, 40]⟩ : ByteArray)) ++ a0) ++ (⟨#[33]⟩ : ByteArray)) ++ a1) ++ (⟨#[46, 48, 38]⟩ : ByteArray)) ++ a2).size + 1 ≤ 9223372036854775807 then ((spec_tmIf.f k (((((((((a0 ++ (⟨#[63]⟩ : ByteArray)) ++ a1) ++ (⟨#[46, 40]⟩ : ByteArray)) ++ a0) ++ (⟨#[33]⟩ : ByteArray)) ++ a1) ++ (⟨#[46, 48, 38]⟩ : ByteArray)) ++ a2) ++ (⟨#[41]⟩ : ByteArray))).bind fun bt138 => (some (bt138.1, bt138.2))) else (none)) else (none)) else (none)) else (none)) else (none)) else (none)) else (none)) else (none)) else (none)) else (some ((⟨#[]⟩ : ByteArray), false))))) else (some ((⟨#[]⟩ : ByteArray), false)))) else (some ((⟨#[]⟩ : ByteArray), false)))
theorem spec_ReadCell.mono : ∀ a0 a1 a2 k, LeO (spec_ReadCell.f k a0 a1 a2) (spec_ReadCell.f (k + 1) a0 a1 a2) := by
  intro a0 a1 a2 k
  unfold spec_ReadCell.f
  repeat' first
      | (with_reducible exact spec_tmGood.mono _ _)
      | (with_reducible exact spec_tmIf.mono _ _)
      | (with_reducible exact LeO.refl _)
      | (with_reducible exact LeO.none _)
      | (with_reducible refine LeO.ite ?_ ?_)
      | (with_reducible refine LeO.bind ?_ (fun _ => ?_))
      | exact spec_tmGood.mono _ _
      | exact spec_tmIf.mono _ _
      | exact LeO.none _
      | refine LeO.ite ?_ ?_
      | refine LeO.bind ?_ (fun _ => ?_)
set_option maxHeartbeats 8000000 in
set_option maxRecDepth 100000 in
theorem spec_ReadCell.calls (k : Nat) (a0 : ByteArray) (a1 : ByteArray) (a2 : ByteArray) (r1 : ByteArray) (r2 : Bool) (w : World) (h : spec_ReadCell.f k a0 a1 a2 = some (r1, r2)) :
    Calls Try.prog 15 #[.string a0, .string a1, .string a2] w fun e w' => e = .returned (.tuple #[.string r1, .bool r2]) ∧ Below w.heap.size w w' := by
  have HB := Aside0.mk (Below.refl w.heap.size w)
  have H : ((spec_tmOne.f a0).bind fun t135 => (if t135 = true then ((spec_tmOne.f a1).bind fun t136 => (if t136 = true then (if a0.toList = a1.toList then (some ((⟨#[]⟩ : ByteArray), false)) else ((spec_tmGood.f k a2).bind fun t137 => (if t137 = true then (if a0.size + 1 ≤ 9223372036854775807 then (if (a0 ++ (⟨#[63]⟩ : ByteArray)).size + a1.size ≤ 9223372036854775807 then (if ((a0 ++ (⟨#[63]⟩ : ByteArray)) ++ a1).size + 2 ≤ 9223372036854775807 then (if (((a0 ++ (⟨#[63]⟩ : ByteArray)) ++ a1) ++ (⟨#[46, 40]⟩ : ByteArray)).size + a0.size ≤ 9223372036854775807 then (if ((((a0 ++ (⟨#[63]⟩ : ByteArray)) ++ a1) ++ (⟨#[46, 40]⟩ : ByteArray)) ++ a0).size + 1 ≤ 9223372036854775807 then (if (((((a0 ++ (⟨#[63]⟩ : ByteArray)) ++ a1) ++ (⟨#[46, 40]⟩ : ByteArray)) ++ a0) ++ (⟨#[33]⟩ : ByteArray)).size + a1.size ≤ 9223372036854775807 then (if ((((((a0 ++ (⟨#[63]⟩ : ByteArray)) ++ a1) ++ (⟨#[46, 40]⟩ : ByteArray)) ++ a0) ++ (⟨#[33]⟩ : ByteArray)) ++ a1).size + 3 ≤ 9223372036854775807 then (if (((((((a0 ++ (⟨#[63]⟩ : ByteArray)) ++ a1) ++ (⟨#[46, 40]⟩ : ByteArray)) ++ a0) ++ (⟨#[33]⟩ : ByteArray)) ++ a1) ++ (⟨#[46, 48, 38]⟩ : ByteArray)).size + a2.size ≤ 9223372036854775807 then (if ((((((((a0 ++ (⟨#[63]⟩ : ByteArray)) ++ a1) ++ (⟨#[46, 40]⟩ : ByteArray)) ++ a0) ++ (⟨#[33]⟩ : ByteArray)) ++ a1) ++ (⟨#[46, 48, 38]⟩ : ByteArray)) ++ a2).size + 1 ≤ 9223372036854775807 then ((spec_tmIf.f k (((((((((a0 ++ (⟨#[63]⟩ : ByteArray)) ++ a1) ++ (⟨#[46, 40]⟩ : ByteArray)) ++ a0) ++ (⟨#[33]⟩ : ByteArray)) ++ a1) ++ (⟨#[46, 48, 38]⟩ : ByteArray)) ++ a2) ++ (⟨#[41]⟩ : ByteArray))).bind fun bt138 => (some (bt138.1, bt138.2))) else (none)) else (none)) else (none)) else (none)) else (none)) else (none)) else (none)) else (none)) else (none)) else (some ((⟨#[]⟩ : ByteArray), false))))) else (some ((⟨#[]⟩ : ByteArray), false)))) else (some ((⟨#[]⟩ : ByteArray), false)))) = some (r1, r2) := h
  clear h
  replace H := Option.bind_eq_some_iff.mp H
  obtain ⟨t135, A40, H⟩ := H
  replace H : (if t135 = true then ((spec_tmOne.f a1).bind fun t136 => (if t136 = true then (if a0.toList = a1.toList then (some ((⟨#[]⟩ : ByteArray), false)) else ((spec_tmGood.f k a2).bind fun t137 => (if t137 = true then (if a0.size + 1 ≤ 9223372036854775807 then (if (a0 ++ (⟨#[63]⟩ : ByteArray)).size + a1.size ≤ 9223372036854775807 then (if ((a0 ++ (⟨#[63]⟩ : ByteArray)) ++ a1).size + 2 ≤ 9223372036854775807 then (if (((a0 ++ (⟨#[63]⟩ : ByteArray)) ++ a1) ++ (⟨#[46, 40]⟩ : ByteArray)).size + a0.size ≤ 9223372036854775807 then (if ((((a0 ++ (⟨#[63]⟩ : ByteArray)) ++ a1) ++ (⟨#[46, 40]⟩ : ByteArray)) ++ a0).size + 1 ≤ 9223372036854775807 then (if (((((a0 ++ (⟨#[63]⟩ : ByteArray)) ++ a1) ++ (⟨#[46, 40]⟩ : ByteArray)) ++ a0) ++ (⟨#[33]⟩ : ByteArray)).size + a1.size ≤ 9223372036854775807 then (if ((((((a0 ++ (⟨#[63]⟩ : ByteArray)) ++ a1) ++ (⟨#[46, 40]⟩ : ByteArray)) ++ a0) ++ (⟨#[33]⟩ : ByteArray)) ++ a1).size + 3 ≤ 9223372036854775807 then (if (((((((a0 ++ (⟨#[63]⟩ : ByteArray)) ++ a1) ++ (⟨#[46, 40]⟩ : ByteArray)) ++ a0) ++ (⟨#[33]⟩ : ByteArray)) ++ a1) ++ (⟨#[46, 48, 38]⟩ : ByteArray)).size + a2.size ≤ 9223372036854775807 then (if ((((((((a0 ++ (⟨#[63]⟩ : ByteArray)) ++ a1) ++ (⟨#[46, 40]⟩ : ByteArray)) ++ a0) ++ (⟨#[33]⟩ : ByteArray)) ++ a1) ++ (⟨#[46, 48, 38]⟩ : ByteArray)) ++ a2).size + 1 ≤ 9223372036854775807 then ((spec_tmIf.f k (((((((((a0 ++ (⟨#[63]⟩ : ByteArray)) ++ a1) ++ (⟨#[46, 40]⟩ : ByteArray)) ++ a0) ++ (⟨#[33]⟩ : ByteArray)) ++ a1) ++ (⟨#[46, 48, 38]⟩ : ByteArray)) ++ a2) ++ (⟨#[41]⟩ : ByteArray))).bind fun bt138 => (some (bt138.1, bt138.2))) else (none)) else (none)) else (none)) else (none)) else (none)) else (none)) else (none)) else (none)) else (none)) else (some ((⟨#[]⟩ : ByteArray), false))))) else (some ((⟨#[]⟩ : ByteArray), false)))) else (some ((⟨#[]⟩ : ByteArray), false))) = some (r1, r2) := H
  have A4 := Aside0.mk A40
  clear A40
  by_cases c5 : t135 = true
  · subst c5
    have H1 : ((spec_tmOne.f a1).bind fun t136 => (if t136 = true then (if a0.toList = a1.toList then (some ((⟨#[]⟩ : ByteArray), false)) else ((spec_tmGood.f k a2).bind fun t137 => (if t137 = true then (if a0.size + 1 ≤ 9223372036854775807 then (if (a0 ++ (⟨#[63]⟩ : ByteArray)).size + a1.size ≤ 9223372036854775807 then (if ((a0 ++ (⟨#[63]⟩ : ByteArray)) ++ a1).size + 2 ≤ 9223372036854775807 then (if (((a0 ++ (⟨#[63]⟩ : ByteArray)) ++ a1) ++ (⟨#[46, 40]⟩ : ByteArray)).size + a0.size ≤ 9223372036854775807 then (if ((((a0 ++ (⟨#[63]⟩ : ByteArray)) ++ a1) ++ (⟨#[46, 40]⟩ : ByteArray)) ++ a0).size + 1 ≤ 9223372036854775807 then (if (((((a0 ++ (⟨#[63]⟩ : ByteArray)) ++ a1) ++ (⟨#[46, 40]⟩ : ByteArray)) ++ a0) ++ (⟨#[33]⟩ : ByteArray)).size + a1.size ≤ 9223372036854775807 then (if ((((((a0 ++ (⟨#[63]⟩ : ByteArray)) ++ a1) ++ (⟨#[46, 40]⟩ : ByteArray)) ++ a0) ++ (⟨#[33]⟩ : ByteArray)) ++ a1).size + 3 ≤ 9223372036854775807 then (if (((((((a0 ++ (⟨#[63]⟩ : ByteArray)) ++ a1) ++ (⟨#[46, 40]⟩ : ByteArray)) ++ a0) ++ (⟨#[33]⟩ : ByteArray)) ++ a1) ++ (⟨#[46, 48, 38]⟩ : ByteArray)).size + a2.size ≤ 9223372036854775807 then (if ((((((((a0 ++ (⟨#[63]⟩ : ByteArray)) ++ a1) ++ (⟨#[46, 40]⟩ : ByteArray)) ++ a0) ++ (⟨#[33]⟩ : ByteArray)) ++ a1) ++ (⟨#[46, 48, 38]⟩ : ByteArray)) ++ a2).size + 1 ≤ 9223372036854775807 then ((spec_tmIf.f k (((((((((a0 ++ (⟨#[63]⟩ : ByteArray)) ++ a1) ++ (⟨#[46, 40]⟩ : ByteArray)) ++ a0) ++ (⟨#[33]⟩ : ByteArray)) ++ a1) ++ (⟨#[46, 48, 38]⟩ : ByteArray)) ++ a2) ++ (⟨#[41]⟩ : ByteArray))).bind fun bt138 => (some (bt138.1, bt138.2))) else (none)) else (none)) else (none)) else (none)) else (none)) else (none)) else (none)) else (none)) else (none)) else (some ((⟨#[]⟩ : ByteArray), false))))) else (some ((⟨#[]⟩ : ByteArray), false)))) = some (r1, r2) := by rw [if_pos rfl] at H; exact H
    clear H
    have H := H1
    clear H1
    replace H := Option.bind_eq_some_iff.mp H
    obtain ⟨t136, A60, H⟩ := H
    replace H : (if t136 = true then (if a0.toList = a1.toList then (some ((⟨#[]⟩ : ByteArray), false)) else ((spec_tmGood.f k a2).bind fun t137 => (if t137 = true then (if a0.size + 1 ≤ 9223372036854775807 then (if (a0 ++ (⟨#[63]⟩ : ByteArray)).size + a1.size ≤ 9223372036854775807 then (if ((a0 ++ (⟨#[63]⟩ : ByteArray)) ++ a1).size + 2 ≤ 9223372036854775807 then (if (((a0 ++ (⟨#[63]⟩ : ByteArray)) ++ a1) ++ (⟨#[46, 40]⟩ : ByteArray)).size + a0.size ≤ 9223372036854775807 then (if ((((a0 ++ (⟨#[63]⟩ : ByteArray)) ++ a1) ++ (⟨#[46, 40]⟩ : ByteArray)) ++ a0).size + 1 ≤ 9223372036854775807 then (if (((((a0 ++ (⟨#[63]⟩ : ByteArray)) ++ a1) ++ (⟨#[46, 40]⟩ : ByteArray)) ++ a0) ++ (⟨#[33]⟩ : ByteArray)).size + a1.size ≤ 9223372036854775807 then (if ((((((a0 ++ (⟨#[63]⟩ : ByteArray)) ++ a1) ++ (⟨#[46, 40]⟩ : ByteArray)) ++ a0) ++ (⟨#[33]⟩ : ByteArray)) ++ a1).size + 3 ≤ 9223372036854775807 then (if (((((((a0 ++ (⟨#[63]⟩ : ByteArray)) ++ a1) ++ (⟨#[46, 40]⟩ : ByteArray)) ++ a0) ++ (⟨#[33]⟩ : ByteArray)) ++ a1) ++ (⟨#[46, 48, 38]⟩ : ByteArray)).size + a2.size ≤ 9223372036854775807 then (if ((((((((a0 ++ (⟨#[63]⟩ : ByteArray)) ++ a1) ++ (⟨#[46, 40]⟩ : ByteArray)) ++ a0) ++ (⟨#[33]⟩ : ByteArray)) ++ a1) ++ (⟨#[46, 48, 38]⟩ : ByteArray)) ++ a2).size + 1 ≤ 9223372036854775807 then ((spec_tmIf.f k (((((((((a0 ++ (⟨#[63]⟩ : ByteArray)) ++ a1) ++ (⟨#[46, 40]⟩ : ByteArray)) ++ a0) ++ (⟨#[33]⟩ : ByteArray)) ++ a1) ++ (⟨#[46, 48, 38]⟩ : ByteArray)) ++ a2) ++ (⟨#[41]⟩ : ByteArray))).bind fun bt138 => (some (bt138.1, bt138.2))) else (none)) else (none)) else (none)) else (none)) else (none)) else (none)) else (none)) else (none)) else (none)) else (some ((⟨#[]⟩ : ByteArray), false))))) else (some ((⟨#[]⟩ : ByteArray), false))) = some (r1, r2) := H
    have A6 := Aside0.mk A60
    clear A60
    by_cases c7 : t136 = true
    · subst c7
      have H1 : (if a0.toList = a1.toList then (some ((⟨#[]⟩ : ByteArray), false)) else ((spec_tmGood.f k a2).bind fun t137 => (if t137 = true then (if a0.size + 1 ≤ 9223372036854775807 then (if (a0 ++ (⟨#[63]⟩ : ByteArray)).size + a1.size ≤ 9223372036854775807 then (if ((a0 ++ (⟨#[63]⟩ : ByteArray)) ++ a1).size + 2 ≤ 9223372036854775807 then (if (((a0 ++ (⟨#[63]⟩ : ByteArray)) ++ a1) ++ (⟨#[46, 40]⟩ : ByteArray)).size + a0.size ≤ 9223372036854775807 then (if ((((a0 ++ (⟨#[63]⟩ : ByteArray)) ++ a1) ++ (⟨#[46, 40]⟩ : ByteArray)) ++ a0).size + 1 ≤ 9223372036854775807 then (if (((((a0 ++ (⟨#[63]⟩ : ByteArray)) ++ a1) ++ (⟨#[46, 40]⟩ : ByteArray)) ++ a0) ++ (⟨#[33]⟩ : ByteArray)).size + a1.size ≤ 9223372036854775807 then (if ((((((a0 ++ (⟨#[63]⟩ : ByteArray)) ++ a1) ++ (⟨#[46, 40]⟩ : ByteArray)) ++ a0) ++ (⟨#[33]⟩ : ByteArray)) ++ a1).size + 3 ≤ 9223372036854775807 then (if (((((((a0 ++ (⟨#[63]⟩ : ByteArray)) ++ a1) ++ (⟨#[46, 40]⟩ : ByteArray)) ++ a0) ++ (⟨#[33]⟩ : ByteArray)) ++ a1) ++ (⟨#[46, 48, 38]⟩ : ByteArray)).size + a2.size ≤ 9223372036854775807 then (if ((((((((a0 ++ (⟨#[63]⟩ : ByteArray)) ++ a1) ++ (⟨#[46, 40]⟩ : ByteArray)) ++ a0) ++ (⟨#[33]⟩ : ByteArray)) ++ a1) ++ (⟨#[46, 48, 38]⟩ : ByteArray)) ++ a2).size + 1 ≤ 9223372036854775807 then ((spec_tmIf.f k (((((((((a0 ++ (⟨#[63]⟩ : ByteArray)) ++ a1) ++ (⟨#[46, 40]⟩ : ByteArray)) ++ a0) ++ (⟨#[33]⟩ : ByteArray)) ++ a1) ++ (⟨#[46, 48, 38]⟩ : ByteArray)) ++ a2) ++ (⟨#[41]⟩ : ByteArray))).bind fun bt138 => (some (bt138.1, bt138.2))) else (none)) else (none)) else (none)) else (none)) else (none)) else (none)) else (none)) else (none)) else (none)) else (some ((⟨#[]⟩ : ByteArray), false))))) = some (r1, r2) := by rw [if_pos rfl] at H; exact H
      clear H
      have H := H1
      clear H1
      by_cases c8 : a0.toList = a1.toList
      · rw [if_pos c8] at H
        have c8b0 : (a0.toList == a1.toList) = true := beq_iff_eq.mpr c8
        have c8b1 : (a0.toList != a1.toList) = false := bne_eq_false_iff_eq.mpr c8
        clear c8
        simp only [Option.some.injEq, Prod.mk.injEq] at H
        obtain ⟨rfl, rfl⟩ := H
        go_enter Try.func15, Try.ntmps15
        go_wp2_with (first | ((with_reducible refine gate_callee (f := 42) rfl ?_); refine goesL_ (some 9) rfl rfl Try.func42 (by kernel_rfl) rfl #[.string a0] rfl (by (try simp only [List.map_toArray, List.map_cons, List.map_nil]); first | done | rfl | (simp only [List.length_drop, List.length_take]; rfl)) ?_; (with_reducible refine (spec_tmOne.calls a0 true _ A4.out).mono ?_); rintro e w' ⟨rfl, ⟨nd, rfl⟩⟩; refine ⟨_, rfl, ?_⟩) | (go_at_call 42; (with_reducible refine (spec_tmOne.calls a1 true _ A6.out).mono ?_); rintro e w' ⟨rfl, ⟨nd, rfl⟩⟩))
        go_ret2
        exact ⟨by first | rfl | (simp [errW_none, errW_some] <;> rfl) | (simp [*, errW_none, errW_some] <;> rfl), by repeat (first | (with_reducible first | exact HB.out | apply below_alloc | apply pw_below_drewN | apply below_drew1) | exact HB.out)⟩
      · rw [if_neg c8] at H
        have c8b0 : (a0.toList == a1.toList) = false := beq_eq_false_iff_ne.mpr c8
        have c8b1 : (a0.toList != a1.toList) = true := bne_iff_ne.mpr c8
        replace H := Option.bind_eq_some_iff.mp H
        obtain ⟨t137, A90, H⟩ := H
        replace H : (if t137 = true then (if a0.size + 1 ≤ 9223372036854775807 then (if (a0 ++ (⟨#[63]⟩ : ByteArray)).size + a1.size ≤ 9223372036854775807 then (if ((a0 ++ (⟨#[63]⟩ : ByteArray)) ++ a1).size + 2 ≤ 9223372036854775807 then (if (((a0 ++ (⟨#[63]⟩ : ByteArray)) ++ a1) ++ (⟨#[46, 40]⟩ : ByteArray)).size + a0.size ≤ 9223372036854775807 then (if ((((a0 ++ (⟨#[63]⟩ : ByteArray)) ++ a1) ++ (⟨#[46, 40]⟩ : ByteArray)) ++ a0).size + 1 ≤ 9223372036854775807 then (if (((((a0 ++ (⟨#[63]⟩ : ByteArray)) ++ a1) ++ (⟨#[46, 40]⟩ : ByteArray)) ++ a0) ++ (⟨#[33]⟩ : ByteArray)).size + a1.size ≤ 9223372036854775807 then (if ((((((a0 ++ (⟨#[63]⟩ : ByteArray)) ++ a1) ++ (⟨#[46, 40]⟩ : ByteArray)) ++ a0) ++ (⟨#[33]⟩ : ByteArray)) ++ a1).size + 3 ≤ 9223372036854775807 then (if (((((((a0 ++ (⟨#[63]⟩ : ByteArray)) ++ a1) ++ (⟨#[46, 40]⟩ : ByteArray)) ++ a0) ++ (⟨#[33]⟩ : ByteArray)) ++ a1) ++ (⟨#[46, 48, 38]⟩ : ByteArray)).size + a2.size ≤ 9223372036854775807 then (if ((((((((a0 ++ (⟨#[63]⟩ : ByteArray)) ++ a1) ++ (⟨#[46, 40]⟩ : ByteArray)) ++ a0) ++ (⟨#[33]⟩ : ByteArray)) ++ a1) ++ (⟨#[46, 48, 38]⟩ : ByteArray)) ++ a2).size + 1 ≤ 9223372036854775807 then ((spec_tmIf.f k (((((((((a0 ++ (⟨#[63]⟩ : ByteArray)) ++ a1) ++ (⟨#[46, 40]⟩ : ByteArray)) ++ a0) ++ (⟨#[33]⟩ : ByteArray)) ++ a1) ++ (⟨#[46, 48, 38]⟩ : ByteArray)) ++ a2) ++ (⟨#[41]⟩ : ByteArray))).bind fun bt138 => (some (bt138.1, bt138.2))) else (none)) else (none)) else (none)) else (none)) else (none)) else (none)) else (none)) else (none)) else (none)) else (some ((⟨#[]⟩ : ByteArray), false))) = some (r1, r2) := H
        have A9 := Aside0.mk A90
        clear A90
        by_cases c10 : t137 = true
        · subst c10
          have H1 : (if a0.size + 1 ≤ 9223372036854775807 then (if (a0 ++ (⟨#[63]⟩ : ByteArray)).size + a1.size ≤ 9223372036854775807 then (if ((a0 ++ (⟨#[63]⟩ : ByteArray)) ++ a1).size + 2 ≤ 9223372036854775807 then (if (((a0 ++ (⟨#[63]⟩ : ByteArray)) ++ a1) ++ (⟨#[46, 40]⟩ : ByteArray)).size + a0.size ≤ 9223372036854775807 then (if ((((a0 ++ (⟨#[63]⟩ : ByteArray)) ++ a1) ++ (⟨#[46, 40]⟩ : ByteArray)) ++ a0).size + 1 ≤ 9223372036854775807 then (if (((((a0 ++ (⟨#[63]⟩ : ByteArray)) ++ a1) ++ (⟨#[46, 40]⟩ : ByteArray)) ++ a0) ++ (⟨#[33]⟩ : ByteArray)).size + a1.size ≤ 9223372036854775807 then (if ((((((a0 ++ (⟨#[63]⟩ : ByteArray)) ++ a1) ++ (⟨#[46, 40]⟩ : ByteArray)) ++ a0) ++ (⟨#[33]⟩ : ByteArray)) ++ a1).size + 3 ≤ 9223372036854775807 then (if (((((((a0 ++ (⟨#[63]⟩ : ByteArray)) ++ a1) ++ (⟨#[46, 40]⟩ : ByteArray)) ++ a0) ++ (⟨#[33]⟩ : ByteArray)) ++ a1) ++ (⟨#[46, 48, 38]⟩ : ByteArray)).size + a2.size ≤ 9223372036854775807 then (if ((((((((a0 ++ (⟨#[63]⟩ : ByteArray)) ++ a1) ++ (⟨#[46, 40]⟩ : ByteArray)) ++ a0) ++ (⟨#[33]⟩ : ByteArray)) ++ a1) ++ (⟨#[46, 48, 38]⟩ : ByteArray)) ++ a2).size + 1 ≤ 9223372036854775807 then ((spec_tmIf.f k (((((((((a0 ++ (⟨#[63]⟩ : ByteArray)) ++ a1) ++ (⟨#[46, 40]⟩ : ByteArray)) ++ a0) ++ (⟨#[33]⟩ : ByteArray)) ++ a1) ++ (⟨#[46, 48, 38]⟩ : ByteArray)) ++ a2) ++ (⟨#[41]⟩ : ByteArray))).bind fun bt138 => (some (bt138.1, bt138.2))) else (none)) else (none)) else (none)) else (none)) else (none)) else (none)) else (none)) else (none)) else (none)) = some (r1, r2) := by rw [if_pos rfl] at H; exact H
          clear H
          have H := H1
          clear H1
          by_cases c11 : a0.size + 1 ≤ 9223372036854775807
          · rw [if_pos c11] at H
            have c11b0 := eq_true c11
            have c11b1 : decide (a0.size + 1 ≤ 9223372036854775807) = true := decide_eq_true c11
            try have c11b2 : (9223372036854775807 < a0.size + 1) = False := eq_false (Nat.not_lt.2 c11)
            try have c11b3 : (9223372036854775807 < a0.size + 1) = False := eq_false (by (try simp only [eq_iff_iff, iff_true] at *); (try simp only [ByteArray.size_append, ByteArray.size_extract] at *); (try simp only [ByteArray.size, List.size_toArray, List.length_cons, List.length_nil] at *); omega)
            by_cases c12 : (a0 ++ (⟨#[63]⟩ : ByteArray)).size + a1.size ≤ 9223372036854775807
            · rw [if_pos c12] at H
              have c12b0 := eq_true c12
              have c12b1 : decide ((a0 ++ (⟨#[63]⟩ : ByteArray)).size + a1.size ≤ 9223372036854775807) = true := decide_eq_true c12
              try have c12b2 : (9223372036854775807 < (a0 ++ (⟨#[63]⟩ : ByteArray)).size + a1.size) = False := eq_false (Nat.not_lt.2 c12)
              try have c12b3 : (9223372036854775807 < a0.size + 1 + a1.size) = False := eq_false (by (try simp only [eq_iff_iff, iff_true] at *); (try simp only [ByteArray.size_append, ByteArray.size_extract] at *); (try simp only [ByteArray.size, List.size_toArray, List.length_cons, List.length_nil] at *); omega)
              by_cases c13 : ((a0 ++ (⟨#[63]⟩ : ByteArray)) ++ a1).size + 2 ≤ 9223372036854775807
              · rw [if_pos c13] at H
                have c13b0 := eq_true c13
                have c13b1 : decide (((a0 ++ (⟨#[63]⟩ : ByteArray)) ++ a1).size + 2 ≤ 9223372036854775807) = true := decide_eq_true c13
                try have c13b2 : (9223372036854775807 < ((a0 ++ (⟨#[63]⟩ : ByteArray)) ++ a1).size + 2) = False := eq_false (Nat.not_lt.2 c13)
                try have c13b3 : (9223372036854775807 < a0.size + 1 + a1.size + 2) = False := eq_false (by (try simp only [eq_iff_iff, iff_true] at *); (try simp only [ByteArray.size_append, ByteArray.size_extract] at *); (try simp only [ByteArray.size, List.size_toArray, List.length_cons, List.length_nil] at *); omega)
                by_cases c14 : (((a0 ++ (⟨#[63]⟩ : ByteArray)) ++ a1) ++ (⟨#[46, 40]⟩ : ByteArray)).size + a0.size ≤ 9223372036854775807
                · rw [if_pos c14] at H
                  have c14b0 := eq_true c14
                  have c14b1 : decide ((((a0 ++ (⟨#[63]⟩ : ByteArray)) ++ a1) ++ (⟨#[46, 40]⟩ : ByteArray)).size + a0.size ≤ 9223372036854775807) = true := decide_eq_true c14
                  try have c14b2 : (9223372036854775807 < (((a0 ++ (⟨#[63]⟩ : ByteArray)) ++ a1) ++ (⟨#[46, 40]⟩ : ByteArray)).size + a0.size) = False := eq_false (Nat.not_lt.2 c14)
                  try have c14b3 : (9223372036854775807 < a0.size + 1 + a1.size + 2 + a0.size) = False := eq_false (by (try simp only [eq_iff_iff, iff_true] at *); (try simp only [ByteArray.size_append, ByteArray.size_extract] at *); (try simp only [ByteArray.size, List.size_toArray, List.length_cons, List.length_nil] at *); omega)
                  by_cases c15 : ((((a0 ++ (⟨#[63]⟩ : ByteArray)) ++ a1) ++ (⟨#[46, 40]⟩ : ByteArray)) ++ a0).size + 1 ≤ 9223372036854775807
                  · rw [if_pos c15] at H
                    have c15b0 := eq_true c15
                    have c15b1 : decide (((((a0 ++ (⟨#[63]⟩ : ByteArray)) ++ a1) ++ (⟨#[46, 40]⟩ : ByteArray)) ++ a0).size + 1 ≤ 9223372036854775807) = true := decide_eq_true c15
                    try have c15b2 : (9223372036854775807 < ((((a0 ++ (⟨#[63]⟩ : ByteArray)) ++ a1) ++ (⟨#[46, 40]⟩ : ByteArray)) ++ a0).size + 1) = False := eq_false (Nat.not_lt.2 c15)
                    try have c15b3 : (9223372036854775807 < a0.size + 1 + a1.size + 2 + a0.size + 1) = False := eq_false (by (try simp only [eq_iff_iff, iff_true] at *); (try simp only [ByteArray.size_append, ByteArray.size_extract] at *); (try simp only [ByteArray.size, List.size_toArray, List.length_cons, List.length_nil] at *); omega)
                    by_cases c16 : (((((a0 ++ (⟨#[63]⟩ : ByteArray)) ++ a1) ++ (⟨#[46, 40]⟩ : ByteArray)) ++ a0) ++ (⟨#[33]⟩ : ByteArray)).size + a1.size ≤ 9223372036854775807
                    · rw [if_pos c16] at H
                      have c16b0 := eq_true c16
                      have c16b1 : decide ((((((a0 ++ (⟨#[63]⟩ : ByteArray)) ++ a1) ++ (⟨#[46, 40]⟩ : ByteArray)) ++ a0) ++ (⟨#[33]⟩ : ByteArray)).size + a1.size ≤ 9223372036854775807) = true := decide_eq_true c16
                      try have c16b2 : (9223372036854775807 < (((((a0 ++ (⟨#[63]⟩ : ByteArray)) ++ a1) ++ (⟨#[46, 40]⟩ : ByteArray)) ++ a0) ++ (⟨#[33]⟩ : ByteArray)).size + a1.size) = False := eq_false (Nat.not_lt.2 c16)
                      try have c16b3 : (9223372036854775807 < a0.size + 1 + a1.size + 2 + a0.size + 1 + a1.size) = False := eq_false (by (try simp only [eq_iff_iff, iff_true] at *); (try simp only [ByteArray.size_append, ByteArray.size_extract] at *); (try simp only [ByteArray.size, List.size_toArray, List.length_cons, List.length_nil] at *); omega)
                      by_cases c17 : ((((((a0 ++ (⟨#[63]⟩ : ByteArray)) ++ a1) ++ (⟨#[46, 40]⟩ : ByteArray)) ++ a0) ++ (⟨#[33]⟩ : ByteArray)) ++ a1).size + 3 ≤ 9223372036854775807
                      · rw [if_pos c17] at H
                        have c17b0 := eq_true c17
                        have c17b1 : decide (((((((a0 ++ (⟨#[63]⟩ : ByteArray)) ++ a1) ++ (⟨#[46, 40]⟩ : ByteArray)) ++ a0) ++ (⟨#[33]⟩ : ByteArray)) ++ a1).size + 3 ≤ 9223372036854775807) = true := decide_eq_true c17
                        try have c17b2 : (9223372036854775807 < ((((((a0 ++ (⟨#[63]⟩ : ByteArray)) ++ a1) ++ (⟨#[46, 40]⟩ : ByteArray)) ++ a0) ++ (⟨#[33]⟩ : ByteArray)) ++ a1).size + 3) = False := eq_false (Nat.not_lt.2 c17)
                        try have c17b3 : (9223372036854775807 < a0.size + 1 + a1.size + 2 + a0.size + 1 + a1.size + 3) = False := eq_false (by (try simp only [eq_iff_iff, iff_true] at *); (try simp only [ByteArray.size_append, ByteArray.size_extract] at *); (try simp only [ByteArray.size, List.size_toArray, List.length_cons, List.length_nil] at *); omega)
                        by_cases c18 : (((((((a0 ++ (⟨#[63]⟩ : ByteArray)) ++ a1) ++ (⟨#[46, 40]⟩ : ByteArray)) ++ a0) ++ (⟨#[33]⟩ : ByteArray)) ++ a1) ++ (⟨#[46, 48, 38]⟩ : ByteArray)).size + a2.size ≤ 9223372036854775807
                        · rw [if_pos c18] at H
                          have c18b0 := eq_true c18
                          have c18b1 : decide ((((((((a0 ++ (⟨#[63]⟩ : ByteArray)) ++ a1) ++ (⟨#[46, 40]⟩ : ByteArray)) ++ a0) ++ (⟨#[33]⟩ : ByteArray)) ++ a1) ++ (⟨#[46, 48, 38]⟩ : ByteArray)).size + a2.size ≤ 9223372036854775807) = true := decide_eq_true c18
                          try have c18b2 : (9223372036854775807 < (((((((a0 ++ (⟨#[63]⟩ : ByteArray)) ++ a1) ++ (⟨#[46, 40]⟩ : ByteArray)) ++ a0) ++ (⟨#[33]⟩ : ByteArray)) ++ a1) ++ (⟨#[46, 48, 38]⟩ : ByteArray)).size + a2.size) = False := eq_false (Nat.not_lt.2 c18)
                          try have c18b3 : (9223372036854775807 < a0.size + 1 + a1.size + 2 + a0.size + 1 + a1.size + 3 + a2.size) = False := eq_false (by (try simp only [eq_iff_iff, iff_true] at *); (try simp only [ByteArray.size_append, ByteArray.size_extract] at *); (try simp only [ByteArray.size, List.size_toArray, List.length_cons, List.length_nil] at *); omega)
                          by_cases c19 : ((((((((a0 ++ (⟨#[63]⟩ : ByteArray)) ++ a1) ++ (⟨#[46, 40]⟩ : ByteArray)) ++ a0) ++ (⟨#[33]⟩ : ByteArray)) ++ a1) ++ (⟨#[46, 48, 38]⟩ : ByteArray)) ++ a2).size + 1 ≤ 9223372036854775807
                          · rw [if_pos c19] at H
                            have c19b0 := eq_true c19
                            have c19b1 : decide (((((((((a0 ++ (⟨#[63]⟩ : ByteArray)) ++ a1) ++ (⟨#[46, 40]⟩ : ByteArray)) ++ a0) ++ (⟨#[33]⟩ : ByteArray)) ++ a1) ++ (⟨#[46, 48, 38]⟩ : ByteArray)) ++ a2).size + 1 ≤ 9223372036854775807) = true := decide_eq_true c19
                            try have c19b2 : (9223372036854775807 < ((((((((a0 ++ (⟨#[63]⟩ : ByteArray)) ++ a1) ++ (⟨#[46, 40]⟩ : ByteArray)) ++ a0) ++ (⟨#[33]⟩ : ByteArray)) ++ a1) ++ (⟨#[46, 48, 38]⟩ : ByteArray)) ++ a2).size + 1) = False := eq_false (Nat.not_lt.2 c19)
                            try have c19b3 : (9223372036854775807 < a0.size + 1 + a1.size + 2 + a0.size + 1 + a1.size + 3 + a2.size + 1) = False := eq_false (by (try simp only [eq_iff_iff, iff_true] at *); (try simp only [ByteArray.size_append, ByteArray.size_extract] at *); (try simp only [ByteArray.size, List.size_toArray, List.length_cons, List.length_nil] at *); omega)
                            replace H := Option.bind_eq_some_iff.mp H
                            obtain ⟨⟨t138, t139⟩, A200, H⟩ := H
                            replace H : (some (t138, t139)) = some (r1, r2) := H
                            have A20 := Aside0.mk A200
                            clear A200
                            simp only [Option.some.injEq, Prod.mk.injEq] at H
                            obtain ⟨rfl, rfl⟩ := H
                            go_enter Try.func15, Try.ntmps15
                            go_wp2_with (first | ((with_reducible refine gate_callee (f := 42) rfl ?_); refine goesL_ (some 9) rfl rfl Try.func42 (by kernel_rfl) rfl #[.string a0] rfl (by (try simp only [List.map_toArray, List.map_cons, List.map_nil]); first | done | rfl | (simp only [List.length_drop, List.length_take]; rfl)) ?_; (with_reducible refine (spec_tmOne.calls a0 true _ A4.out).mono ?_); rintro e w' ⟨rfl, ⟨nd, rfl⟩⟩; refine ⟨_, rfl, ?_⟩) | (go_at_call 42; (with_reducible refine (spec_tmOne.calls a1 true _ A6.out).mono ?_); rintro e w' ⟨rfl, ⟨nd, rfl⟩⟩) | (go_at_call 43; (with_reducible refine (spec_tmGood.calls k a2 true _ A9.out).mono ?_); rintro e w21 ⟨rfl, hb⟩; have n0_ := Aside0.mk (below_step (by repeat (first | (with_reducible first | exact HB.out | apply below_alloc | apply pw_below_drewN | apply below_drew1) | exact HB.out)) hb); clear HB; have HB := n0_; clear n0_; (try clear hb); (try clear hb2); (try clear hk); (try clear hi)) | ((with_reducible refine gate_callee (f := 44) rfl ?_); refine goesL_ (some 40) rfl rfl Try.func44 (by kernel_rfl) rfl #[.string (((((((((a0 ++ (⟨#[63]⟩ : ByteArray)) ++ a1) ++ (⟨#[46, 40]⟩ : ByteArray)) ++ a0) ++ (⟨#[33]⟩ : ByteArray)) ++ a1) ++ (⟨#[46, 48, 38]⟩ : ByteArray)) ++ a2) ++ (⟨#[41]⟩ : ByteArray))] rfl (by (try simp only [List.map_toArray, List.map_cons, List.map_nil]); first | done | rfl | (simp only [List.length_drop, List.length_take]; rfl)) ?_; (with_reducible refine (spec_tmIf.calls k (((((((((a0 ++ (⟨#[63]⟩ : ByteArray)) ++ a1) ++ (⟨#[46, 40]⟩ : ByteArray)) ++ a0) ++ (⟨#[33]⟩ : ByteArray)) ++ a1) ++ (⟨#[46, 48, 38]⟩ : ByteArray)) ++ a2) ++ (⟨#[41]⟩ : ByteArray)) t138 t139 _ A20.out).mono ?_); rintro e w22 ⟨rfl, hb⟩; refine ⟨_, rfl, ?_⟩; have n0_ := Aside0.mk (below_step (by repeat (first | (with_reducible first | exact HB.out | apply below_alloc | apply pw_below_drewN | apply below_drew1) | exact HB.out)) hb); clear HB; have HB := n0_; clear n0_; (try clear hb); (try clear hb2); (try clear hk); (try clear hi)))
                            go_ret2
                            exact ⟨by first | rfl | (simp [errW_none, errW_some] <;> rfl) | (simp [*, errW_none, errW_some] <;> rfl), by repeat (first | (with_reducible first | exact HB.out | apply below_alloc | apply pw_below_drewN | apply below_drew1) | exact HB.out)⟩
                          · rw [if_neg c19] at H
                            exact absurd H (by simp)
                        · rw [if_neg c18] at H
                          exact absurd H (by simp)
                      · rw [if_neg c17] at H
                        exact absurd H (by simp)
                    · rw [if_neg c16] at H
                      exact absurd H (by simp)
                  · rw [if_neg c15] at H
                    exact absurd H (by simp)
                · rw [if_neg c14] at H
                  exact absurd H (by simp)
              · rw [if_neg c13] at H
                exact absurd H (by simp)
            · rw [if_neg c12] at H
              exact absurd H (by simp)
          · rw [if_neg c11] at H
            exact absurd H (by simp)
        · replace c10 := Bool.eq_false_iff.mpr c10
          subst c10
          have H1 : (some ((⟨#[]⟩ : ByteArray), false)) = some (r1, r2) := by rw [if_neg (show ¬ (false = true) by decide)] at H; exact H
          clear H
          have H := H1
          clear H1
          simp only [Option.some.injEq, Prod.mk.injEq] at H
          obtain ⟨rfl, rfl⟩ := H
          go_enter Try.func15, Try.ntmps15
          go_wp2_with (first | ((with_reducible refine gate_callee (f := 42) rfl ?_); refine goesL_ (some 9) rfl rfl Try.func42 (by kernel_rfl) rfl #[.string a0] rfl (by (try simp only [List.map_toArray, List.map_cons, List.map_nil]); first | done | rfl | (simp only [List.length_drop, List.length_take]; rfl)) ?_; (with_reducible refine (spec_tmOne.calls a0 true _ A4.out).mono ?_); rintro e w' ⟨rfl, ⟨nd, rfl⟩⟩; refine ⟨_, rfl, ?_⟩) | (go_at_call 42; (with_reducible refine (spec_tmOne.calls a1 true _ A6.out).mono ?_); rintro e w' ⟨rfl, ⟨nd, rfl⟩⟩) | (go_at_call 43; (with_reducible refine (spec_tmGood.calls k a2 false _ A9.out).mono ?_); rintro e w23 ⟨rfl, hb⟩; have n0_ := Aside0.mk (below_step (by repeat (first | (with_reducible first | exact HB.out | apply below_alloc | apply pw_below_drewN | apply below_drew1) | exact HB.out)) hb); clear HB; have HB := n0_; clear n0_; (try clear hb); (try clear hb2); (try clear hk); (try clear hi)))
          go_ret2
          exact ⟨by first | rfl | (simp [errW_none, errW_some] <;> rfl) | (simp [*, errW_none, errW_some] <;> rfl), by repeat (first | (with_reducible first | exact HB.out | apply below_alloc | apply pw_below_drewN | apply below_drew1) | exact HB.out)⟩
    · replace c7 := Bool.eq_false_iff.mpr c7
      subst c7
      have H1 : (some ((⟨#[]⟩ : ByteArray), false)) = some (r1, r2) := by rw [if_neg (show ¬ (false = true) by decide)] at H; exact H
      clear H
      have H := H1
      clear H1
      simp only [Option.some.injEq, Prod.mk.injEq] at H
      obtain ⟨rfl, rfl⟩ := H
      go_enter Try.func15, Try.ntmps15
      go_wp2_with (first | ((with_reducible refine gate_callee (f := 42) rfl ?_); refine goesL_ (some 9) rfl rfl Try.func42 (by kernel_rfl) rfl #[.string a0] rfl (by (try simp only [List.map_toArray, List.map_cons, List.map_nil]); first | done | rfl | (simp only [List.length_drop, List.length_take]; rfl)) ?_; (with_reducible refine (spec_tmOne.calls a0 true _ A4.out).mono ?_); rintro e w' ⟨rfl, ⟨nd, rfl⟩⟩; refine ⟨_, rfl, ?_⟩) | (go_at_call 42; (with_reducible refine (spec_tmOne.calls a1 false _ A6.out).mono ?_); rintro e w' ⟨rfl, ⟨nd, rfl⟩⟩))
      go_ret2
      exact ⟨by first | rfl | (simp [errW_none, errW_some] <;> rfl) | (simp [*, errW_none, errW_some] <;> rfl), by repeat (first | (with_reducible first | exact HB.out | apply below_alloc | apply pw_below_drewN | apply below_drew1) | exact HB.out)⟩
  · replace c5 := Bool.eq_false_iff.mpr c5
    subst c5
    have H1 : (some ((⟨#[]⟩ : ByteArray), false)) = some (r1, r2) := by rw [if_neg (show ¬ (false = true) by decide)] at H; exact H
    clear H
    have H := H1
    clear H1
    simp only [Option.some.injEq, Prod.mk.injEq] at H
    obtain ⟨rfl, rfl⟩ := H
    go_enter Try.func15, Try.ntmps15
    go_wp2_with (first | ((with_reducible refine gate_callee (f := 42) rfl ?_); refine goesL_ (some 9) rfl rfl Try.func42 (by kernel_rfl) rfl #[.string a0] rfl (by (try simp only [List.map_toArray, List.map_cons, List.map_nil]); first | done | rfl | (simp only [List.length_drop, List.length_take]; rfl)) ?_; (with_reducible refine (spec_tmOne.calls a0 false _ A4.out).mono ?_); rintro e w' ⟨rfl, ⟨nd, rfl⟩⟩; refine ⟨_, rfl, ?_⟩))
    go_ret2
    exact ⟨by first | rfl | (simp [errW_none, errW_some] <;> rfl) | (simp [*, errW_none, errW_some] <;> rfl), by repeat (first | (with_reducible first | exact HB.out | apply below_alloc | apply pw_below_drewN | apply below_drew1) | exact HB.out)⟩

end Go.Proofs.Ytjinjanjjecmiaa.PReadCell
