-- PRINTED BY print.sh 35421559b90ae4d0a3588c463048766b98c2df88dd9212a6774a882060cdf62d: not written by this session
import Derived.Test.YtfcadppidgkoaaaPForwardAtx0
import Derived.Test.YtfcadppidgkoaaaPForwardAtx1
import Derived.Test.YtfcadppidgkoaaaPForwardAtx2
import Derived.Test.YtfcadppidgkoaaaPForwardAtx3
namespace Go.Proofs.Ytfcadppidgkoaaa.PForwardAt
open Go.RowKit Go.Proofs.YtfcadppidgkoaaaW.PrintWords Go.Proofs.YtfcadppidgkoaaaW.PrintLast Go.Proofs.YtfcadppidgkoaaaW.PrintMore
attribute [local go_sem] max2_int min2_int max_two min_two max_three min_three max_four min_four   -- for this text's walks alone
set_option linter.unusedVariables false
set_option linter.unusedSimpArgs false

/-! ### spec_tmGood: function 44 -/
def spec_tmGood.f (k : Nat) (a0 : ByteArray) : Option (Bool) := if (a0.size : Int) ≤ 300 then ((spec_tmSmall.f k a0).bind fun t136 => (if t136 = true then ((spec_tmEnd.f k a0 0).bind fun t137 => (if t137 = (a0.size : Int) then ((spec_tmSize.f k a0).bind fun t138 => (some (decide (t138 ≤ 60)))) else (some false))) else (some false))) else (some false)
theorem spec_tmGood.mono : ∀ a0 k, LeO (spec_tmGood.f k a0) (spec_tmGood.f (k + 1) a0) := by
  intro a0 k
  unfold spec_tmGood.f
  repeat' first
      | (with_reducible exact spec_tmEnd.mono _ _ _)
      | (with_reducible exact spec_tmSize.mono _ _)
      | (with_reducible exact spec_tmSmall.mono _ _)
      | (with_reducible exact LeO.refl _)
      | (with_reducible exact LeO.none _)
      | (with_reducible refine LeO.ite ?_ ?_)
      | (with_reducible refine LeO.bind ?_ (fun _ => ?_))
      | exact spec_tmEnd.mono _ _ _
      | exact spec_tmSize.mono _ _
      | exact spec_tmSmall.mono _ _
      | exact LeO.none _
      | refine LeO.ite ?_ ?_
      | refine LeO.bind ?_ (fun _ => ?_)
set_option maxHeartbeats 8000000 in
set_option maxRecDepth 100000 in
theorem spec_tmGood.calls (k : Nat) (a0 : ByteArray) (r : Bool) (w : World) (h : spec_tmGood.f k a0 = some r) :
    Calls Try.prog 44 #[.string a0] w fun e w' => e = .returned (.bool r) ∧ Below w.heap.size w w' := by
  have HB := Aside0.mk (Below.refl w.heap.size w)
  have H : (if (a0.size : Int) ≤ 300 then ((spec_tmSmall.f k a0).bind fun t136 => (if t136 = true then ((spec_tmEnd.f k a0 0).bind fun t137 => (if t137 = (a0.size : Int) then ((spec_tmSize.f k a0).bind fun t138 => (some (decide (t138 ≤ 60)))) else (some false))) else (some false))) else (some false)) = some r := h
  clear h
  by_cases c2 : (a0.size : Int) ≤ 300
  · rw [if_pos c2] at H
    have c2b0 : decide ((a0.size : Int) ≤ 300) = true := decide_eq_true c2
    have c2b1 : decide (a0.size ≤ 300) = true := decide_eq_true (by omega)
    clear c2
    replace H := Option.bind_eq_some_iff.mp H
    obtain ⟨t136, A30, H⟩ := H
    replace H : (if t136 = true then ((spec_tmEnd.f k a0 0).bind fun t137 => (if t137 = (a0.size : Int) then ((spec_tmSize.f k a0).bind fun t138 => (some (decide (t138 ≤ 60)))) else (some false))) else (some false)) = some r := H
    have A3 := Aside0.mk A30
    clear A30
    by_cases c4 : t136 = true
    · subst c4
      have H1 : ((spec_tmEnd.f k a0 0).bind fun t137 => (if t137 = (a0.size : Int) then ((spec_tmSize.f k a0).bind fun t138 => (some (decide (t138 ≤ 60)))) else (some false))) = some r := by rw [if_pos rfl] at H; exact H
      clear H
      have H := H1
      clear H1
      replace H := Option.bind_eq_some_iff.mp H
      obtain ⟨t137, A50, H⟩ := H
      replace H : (if t137 = (a0.size : Int) then ((spec_tmSize.f k a0).bind fun t138 => (some (decide (t138 ≤ 60)))) else (some false)) = some r := H
      have A5 := Aside0.mk A50
      clear A50
      by_cases c6 : t137 = (a0.size : Int)
      · rw [if_pos c6] at H
        have c6b0 : (t137 == (a0.size : Int)) = true := beq_iff_eq.mpr c6
        have c6b1 : (t137 != (a0.size : Int)) = false := bne_eq_false_iff_eq.mpr c6
        clear c6
        replace H := Option.bind_eq_some_iff.mp H
        obtain ⟨t138, A70, H⟩ := H
        replace H : (some (decide (t138 ≤ 60))) = some r := H
        have A7 := Aside0.mk A70
        clear A70
        obtain rfl := Option.some.inj H
        go_enter Try.func44, Try.ntmps44
        go_wp2_with (first | (go_at_call 91; (with_reducible refine (spec_tmSmall.calls k a0 true _ A3.out).mono ?_); rintro e w' ⟨rfl, ⟨nd, rfl⟩⟩) | (go_at_call 92; (with_reducible refine (spec_tmEnd.calls k a0 0 t137 _ A5.out).mono ?_); rintro e w' ⟨rfl, ⟨nd, rfl⟩⟩) | (go_at_call 93; (with_reducible refine (spec_tmSize.calls k a0 t138 _ A7.out).mono ?_); rintro e w8 ⟨rfl, hb⟩; have n0_ := Aside0.mk (below_step (by repeat (first | (with_reducible first | exact HB.out | apply below_alloc | apply pw_below_drewN | apply below_drew1) | exact HB.out)) hb); clear HB; have HB := n0_; clear n0_; (try clear hb); (try clear hb2); (try clear hk); (try clear hi)))
        go_ret
        exact ⟨by first | rfl | (simp [errW_none, errW_some] <;> rfl) | (simp [*, errW_none, errW_some] <;> rfl), by repeat (first | (with_reducible first | exact HB.out | apply below_alloc | apply pw_below_drewN | apply below_drew1) | exact HB.out)⟩
      · rw [if_neg c6] at H
        have c6b0 : (t137 == (a0.size : Int)) = false := beq_eq_false_iff_ne.mpr c6
        have c6b1 : (t137 != (a0.size : Int)) = true := bne_iff_ne.mpr c6
        obtain rfl := Option.some.inj H
        go_enter Try.func44, Try.ntmps44
        go_wp2_with (first | (go_at_call 91; (with_reducible refine (spec_tmSmall.calls k a0 true _ A3.out).mono ?_); rintro e w' ⟨rfl, ⟨nd, rfl⟩⟩) | (go_at_call 92; (with_reducible refine (spec_tmEnd.calls k a0 0 t137 _ A5.out).mono ?_); rintro e w' ⟨rfl, ⟨nd, rfl⟩⟩))
        go_ret
        exact ⟨by first | rfl | (simp [errW_none, errW_some] <;> rfl) | (simp [*, errW_none, errW_some] <;> rfl), by repeat (first | (with_reducible first | exact HB.out | apply below_alloc | apply pw_below_drewN | apply below_drew1) | exact HB.out)⟩
    · replace c4 := Bool.eq_false_iff.mpr c4
      subst c4
      have H1 : (some false) = some r := by rw [if_neg (show ¬ (false = true) by decide)] at H; exact H
      clear H
      have H := H1
      clear H1
      obtain rfl := Option.some.inj H
      go_enter Try.func44, Try.ntmps44
      go_wp2_with (first | (go_at_call 91; (with_reducible refine (spec_tmSmall.calls k a0 false _ A3.out).mono ?_); rintro e w' ⟨rfl, ⟨nd, rfl⟩⟩))
      go_ret
      exact ⟨by first | rfl | (simp [errW_none, errW_some] <;> rfl) | (simp [*, errW_none, errW_some] <;> rfl), by repeat (first | (with_reducible first | exact HB.out | apply below_alloc | apply pw_below_drewN | apply below_drew1) | exact HB.out)⟩
  · rw [if_neg c2] at H
    have c2b0 : decide ((a0.size : Int) ≤ 300) = false := decide_eq_false c2
    have c2b1 : decide (a0.size ≤ 300) = false := decide_eq_false (by omega)
    clear c2
    obtain rfl := Option.some.inj H
    go_enter Try.func44, Try.ntmps44
    go_wp2
    go_ret
    exact ⟨by first | rfl | (simp [errW_none, errW_some] <;> rfl) | (simp [*, errW_none, errW_some] <;> rfl), by repeat (first | (with_reducible first | exact HB.out | apply below_alloc | apply pw_below_drewN | apply below_drew1) | exact HB.out)⟩

/-! ### spec_tmIf: function 65 -/
def spec_tmIf.f (k : Nat) (a0 : ByteArray) : Option (ByteArray × Bool) := (spec_tmGood.f k a0).bind fun t139 => (if t139 = true then (some (a0, true)) else (some ((⟨#[]⟩ : ByteArray), false)))
theorem spec_tmIf.mono : ∀ a0 k, LeO (spec_tmIf.f k a0) (spec_tmIf.f (k + 1) a0) := by
  intro a0 k
  unfold spec_tmIf.f
  repeat' first
      | (with_reducible exact spec_tmGood.mono _ _)
      | (with_reducible exact LeO.refl _)
      | (with_reducible exact LeO.none _)
      | (with_reducible refine LeO.ite ?_ ?_)
      | (with_reducible refine LeO.bind ?_ (fun _ => ?_))
      | exact spec_tmGood.mono _ _
      | exact LeO.none _
      | refine LeO.ite ?_ ?_
      | refine LeO.bind ?_ (fun _ => ?_)
set_option maxHeartbeats 8000000 in
set_option maxRecDepth 100000 in
theorem spec_tmIf.calls (k : Nat) (a0 : ByteArray) (r1 : ByteArray) (r2 : Bool) (w : World) (h : spec_tmIf.f k a0 = some (r1, r2)) :
    Calls Try.prog 65 #[.string a0] w fun e w' => e = .returned (.tuple #[.string r1, .bool r2]) ∧ Below w.heap.size w w' := by
  have HB := Aside0.mk (Below.refl w.heap.size w)
  have H : ((spec_tmGood.f k a0).bind fun t139 => (if t139 = true then (some (a0, true)) else (some ((⟨#[]⟩ : ByteArray), false)))) = some (r1, r2) := h
  clear h
  replace H := Option.bind_eq_some_iff.mp H
  obtain ⟨t139, A20, H⟩ := H
  replace H : (if t139 = true then (some (a0, true)) else (some ((⟨#[]⟩ : ByteArray), false))) = some (r1, r2) := H
  have A2 := Aside0.mk A20
  clear A20
  by_cases c3 : t139 = true
  · subst c3
    have H1 : (some (a0, true)) = some (r1, r2) := by rw [if_pos rfl] at H; exact H
    clear H
    have H := H1
    clear H1
    simp only [Option.some.injEq, Prod.mk.injEq] at H
    obtain ⟨rfl, rfl⟩ := H
    go_enter Try.func65, Try.ntmps65
    go_wp2_with (first | ((with_reducible refine gate_callee (f := 44) rfl ?_); refine goesL_ (some 5) rfl rfl Try.func44 (by kernel_rfl) rfl #[.string a0] rfl (by (try simp only [List.map_toArray, List.map_cons, List.map_nil]); first | done | rfl | (simp only [List.length_drop, List.length_take]; rfl)) ?_; (with_reducible refine (spec_tmGood.calls k a0 true _ A2.out).mono ?_); rintro e w4 ⟨rfl, hb⟩; refine ⟨_, rfl, ?_⟩; have n0_ := Aside0.mk (below_step (by repeat (first | (with_reducible first | exact HB.out | apply below_alloc | apply pw_below_drewN | apply below_drew1) | exact HB.out)) hb); clear HB; have HB := n0_; clear n0_; (try clear hb); (try clear hb2); (try clear hk); (try clear hi)))
    go_ret2
    exact ⟨by first | rfl | (simp [errW_none, errW_some] <;> rfl) | (simp [*, errW_none, errW_some] <;> rfl), by repeat (first | (with_reducible first | exact HB.out | apply below_alloc | apply pw_below_drewN | apply below_drew1) | exact HB.out)⟩
  · replace c3 := Bool.eq_false_iff.mpr c3
    subst c3
    have H1 : (some ((⟨#[]⟩ : ByteArray), false)) = some (r1, r2) := by rw [if_neg (show ¬ (false = true) by decide)] at H; exact H
    clear H
    have H := H1
    clear H1
    simp only [Option.some.injEq, Prod.mk.injEq] at H
    obtain ⟨rfl, rfl⟩ := H
    go_enter Try.func65, Try.ntmps65
    go_wp2_with (first | ((with_reducible refine gate_callee (f := 44) rfl ?_); refine goesL_ (some 5) rfl rfl Try.func44 (by kernel_rfl) rfl #[.string a0] rfl (by (try simp only [List.map_toArray, List.map_cons, List.map_nil]); first | done | rfl | (simp only [List.length_drop, List.length_take]; rfl)) ?_; (with_reducible refine (spec_tmGood.calls k a0 false _ A2.out).mono ?_); rintro e w5 ⟨rfl, hb⟩; refine ⟨_, rfl, ?_⟩; have n0_ := Aside0.mk (below_step (by repeat (first | (with_reducible first | exact HB.out | apply below_alloc | apply pw_below_drewN | apply below_drew1) | exact HB.out)) hb); clear HB; have HB := n0_; clear n0_; (try clear hb); (try clear hb2); (try clear hk); (try clear hi)))
    go_ret2
    exact ⟨by first | rfl | (simp [errW_none, errW_some] <;> rfl) | (simp [*, errW_none, errW_some] <;> rfl), by repeat (first | (with_reducible first | exact HB.out | apply below_alloc | apply pw_below_drewN | apply below_drew1) | exact HB.out)⟩

/-! ### spec_ForwardAt: function 24 -/
def spec_ForwardAt.j0 : Nat → ByteArray → ByteArray → Bool → Option (ByteArray × Bool)
  | 0, _, _, _ => none
  | k + 1, x0, x1, x14 => if x14 = true then (some ((⟨#[]⟩ : ByteArray), false)) else (if x0.size + x1.size ≤ 9223372036854775807 then ((spec_tmFresh.f k (x0 ++ x1)).bind fun t142 => ((spec_cdText.f t142).bind fun t143 => (if 1 + x0.size ≤ 9223372036854775807 then (if ((⟨#[42]⟩ : ByteArray) ++ x0).size + 1 ≤ 9223372036854775807 then (if (((⟨#[42]⟩ : ByteArray) ++ x0) ++ (⟨#[63]⟩ : ByteArray)).size + t143.size ≤ 9223372036854775807 then (if ((((⟨#[42]⟩ : ByteArray) ++ x0) ++ (⟨#[63]⟩ : ByteArray)) ++ t143).size + 1 ≤ 9223372036854775807 then (if (((((⟨#[42]⟩ : ByteArray) ++ x0) ++ (⟨#[63]⟩ : ByteArray)) ++ t143) ++ (⟨#[46]⟩ : ByteArray)).size + x1.size ≤ 9223372036854775807 then (if ((((((⟨#[42]⟩ : ByteArray) ++ x0) ++ (⟨#[63]⟩ : ByteArray)) ++ t143) ++ (⟨#[46]⟩ : ByteArray)) ++ x1).size + 1 ≤ 9223372036854775807 then (if (((((((⟨#[42]⟩ : ByteArray) ++ x0) ++ (⟨#[63]⟩ : ByteArray)) ++ t143) ++ (⟨#[46]⟩ : ByteArray)) ++ x1) ++ (⟨#[33]⟩ : ByteArray)).size + t143.size ≤ 9223372036854775807 then (if ((((((((⟨#[42]⟩ : ByteArray) ++ x0) ++ (⟨#[63]⟩ : ByteArray)) ++ t143) ++ (⟨#[46]⟩ : ByteArray)) ++ x1) ++ (⟨#[33]⟩ : ByteArray)) ++ t143).size + 2 ≤ 9223372036854775807 then ((spec_tmIf.f k (((((((((⟨#[42]⟩ : ByteArray) ++ x0) ++ (⟨#[63]⟩ : ByteArray)) ++ t143) ++ (⟨#[46]⟩ : ByteArray)) ++ x1) ++ (⟨#[33]⟩ : ByteArray)) ++ t143) ++ (⟨#[46, 48]⟩ : ByteArray))).bind fun bt144 => (some (bt144.1, bt144.2))) else (none)) else (none)) else (none)) else (none)) else (none)) else (none)) else (none)) else (none)))) else (none))
def spec_ForwardAt.f (k : Nat) (a0 : ByteArray) (a1 : ByteArray) : Option (ByteArray × Bool) := (spec_tmOne.f a0).bind fun t140 => (if t140 = true then ((spec_tmOne.f a1).bind fun t141 => (spec_ForwardAt.j0 k a0 a1 (!t141))) else (spec_ForwardAt.j0 k a0 a1 true))
theorem spec_ForwardAt.mono_l : ∀ k, (∀ y0 y1 y2, LeO (spec_ForwardAt.j0 k y0 y1 y2) (spec_ForwardAt.j0 (k + 1) y0 y1 y2))
  | 0 => fun _ _ _ r h => by simp [spec_ForwardAt.j0] at h
  | k + 1 => by
    have ih0 := spec_ForwardAt.mono_l k
    · intro y0 y1 y2
      unfold spec_ForwardAt.j0
      repeat' first
      | (with_reducible exact ih0 _ _ _)
      | (with_reducible exact spec_tmFresh.mono _ _)
      | (with_reducible exact spec_tmIf.mono _ _)
      | (with_reducible exact LeO.refl _)
      | (with_reducible exact LeO.none _)
      | (with_reducible refine LeO.ite ?_ ?_)
      | (with_reducible refine LeO.bind ?_ (fun _ => ?_))
      | exact ih0 _ _ _
      | exact spec_tmFresh.mono _ _
      | exact spec_tmIf.mono _ _
      | exact LeO.none _
      | refine LeO.ite ?_ ?_
      | refine LeO.bind ?_ (fun _ => ?_)
theorem spec_ForwardAt.mono : ∀ a0 a1 k, LeO (spec_ForwardAt.f k a0 a1) (spec_ForwardAt.f (k + 1) a0 a1) := by
  intro a0 a1 k
  have ih0 := spec_ForwardAt.mono_l k
  unfold spec_ForwardAt.f
  repeat' first
      | (with_reducible exact ih0 _ _ _)
      | (with_reducible exact spec_tmFresh.mono _ _)
      | (with_reducible exact spec_tmIf.mono _ _)
      | (with_reducible exact LeO.refl _)
      | (with_reducible exact LeO.none _)
      | (with_reducible refine LeO.ite ?_ ?_)
      | (with_reducible refine LeO.bind ?_ (fun _ => ?_))
      | exact ih0 _ _ _
      | exact spec_tmFresh.mono _ _
      | exact spec_tmIf.mono _ _
      | exact LeO.none _
      | refine LeO.ite ?_ ?_
      | refine LeO.bind ?_ (fun _ => ?_)
set_option maxHeartbeats 8000000 in
set_option maxRecDepth 100000 in
theorem spec_ForwardAt.calls (k : Nat) (a0 : ByteArray) (a1 : ByteArray) (r1 : ByteArray) (r2 : Bool) (w : World) (h : spec_ForwardAt.f k a0 a1 = some (r1, r2)) :
    Calls Try.prog 24 #[.string a0, .string a1] w fun e w' => e = .returned (.tuple #[.string r1, .bool r2]) ∧ Below w.heap.size w w' := by
  have HB := Aside0.mk (Below.refl w.heap.size w)
  have H : ((spec_tmOne.f a0).bind fun t140 => (if t140 = true then ((spec_tmOne.f a1).bind fun t141 => (spec_ForwardAt.j0 k a0 a1 (!t141))) else (spec_ForwardAt.j0 k a0 a1 true))) = some (r1, r2) := h
  clear h
  have HC3 := Aside0.mk H
  clear H
  go_enter Try.func24, Try.ntmps24
  go_upto_region 1 with (fail)
  go_cut [14] (fun v14 wc => ∃ (kq : Nat) (x14_2 : Bool), v14 = .bool x14_2 ∧ Aside0 (spec_ForwardAt.j0 kq a0 a1 x14_2 = some (r1, r2)) ∧ Aside0 (kq ≤ k) ∧ Aside0 (Below w.heap.size w wc))
  case first =>
    have H := HC3.out
    clear HC3
    replace H := Option.bind_eq_some_iff.mp H
    obtain ⟨t140, A40, H⟩ := H
    replace H : (if t140 = true then ((spec_tmOne.f a1).bind fun t141 => (spec_ForwardAt.j0 k a0 a1 (!t141))) else (spec_ForwardAt.j0 k a0 a1 true)) = some (r1, r2) := H
    have A4 := Aside0.mk A40
    clear A40
    by_cases c5 : t140 = true
    · subst c5
      have H1 : ((spec_tmOne.f a1).bind fun t141 => (spec_ForwardAt.j0 k a0 a1 (!t141))) = some (r1, r2) := by rw [if_pos rfl] at H; exact H
      clear H
      have H := H1
      clear H1
      replace H := Option.bind_eq_some_iff.mp H
      obtain ⟨t141, A60, H⟩ := H
      replace H : (spec_ForwardAt.j0 k a0 a1 (!t141)) = some (r1, r2) := H
      have A6 := Aside0.mk A60
      clear A60
      have H' := Aside0.mk H
      clear H
      go_wp2_with (first | ((with_reducible refine gate_callee (f := 62) rfl ?_); refine goesL_ (some 8) rfl rfl Try.func62 (by kernel_rfl) rfl #[.string a0] rfl (by (try simp only [List.map_toArray, List.map_cons, List.map_nil]); first | done | rfl | (simp only [List.length_drop, List.length_take]; rfl)) ?_; (with_reducible refine (spec_tmOne.calls a0 true _ A4.out).mono ?_); rintro e w' ⟨rfl, ⟨nd, rfl⟩⟩; refine ⟨_, rfl, ?_⟩) | (go_at_call 62; (with_reducible refine (spec_tmOne.calls a1 t141 _ A6.out).mono ?_); rintro e w' ⟨rfl, ⟨nd, rfl⟩⟩))
      go_meet
      case rel => exact ⟨_, (!t141), (by first | rfl | (simp; done) | (simp [*]; done)), H', ⟨by first | omega | exact Nat.le_refl _⟩, ⟨by repeat (first | (with_reducible first | exact HB.out | apply below_alloc | apply pw_below_drewN | apply below_drew1) | exact HB.out)⟩⟩
    · replace c5 := Bool.eq_false_iff.mpr c5
      subst c5
      have H1 : (spec_ForwardAt.j0 k a0 a1 true) = some (r1, r2) := by rw [if_neg (show ¬ (false = true) by decide)] at H; exact H
      clear H
      have H := H1
      clear H1
      have H' := Aside0.mk H
      clear H
      go_wp2_with (first | ((with_reducible refine gate_callee (f := 62) rfl ?_); refine goesL_ (some 8) rfl rfl Try.func62 (by kernel_rfl) rfl #[.string a0] rfl (by (try simp only [List.map_toArray, List.map_cons, List.map_nil]); first | done | rfl | (simp only [List.length_drop, List.length_take]; rfl)) ?_; (with_reducible refine (spec_tmOne.calls a0 false _ A4.out).mono ?_); rintro e w' ⟨rfl, ⟨nd, rfl⟩⟩; refine ⟨_, rfl, ?_⟩))
      go_meet
      case rel => exact ⟨_, (true), (by first | rfl | (simp; done) | (simp [*]; done)), H', ⟨by first | omega | exact Nat.le_refl _⟩, ⟨by repeat (first | (with_reducible first | exact HB.out | apply below_alloc | apply pw_below_drewN | apply below_drew1) | exact HB.out)⟩⟩
  case rest =>
    clear HC3
    try clear c2
    try clear p2
    try clear c5
    try clear c6
    obtain ⟨kq, x14_2, rfl, HA, HJ2, HB⟩ := hcut
    cases kq with
    | zero => exact absurd HA.out (by simp [spec_ForwardAt.j0])
    | succ kj2 =>
      have H := HA.out
      clear HA
      simp only [spec_ForwardAt.j0] at H
      by_cases c7 : x14_2 = true
      · subst c7
        have H1 : (some ((⟨#[]⟩ : ByteArray), false)) = some (r1, r2) := by rw [if_pos rfl] at H; exact H
        clear H
        have H := H1
        clear H1
        simp only [Option.some.injEq, Prod.mk.injEq] at H
        obtain ⟨rfl, rfl⟩ := H
        go_wp2
        go_ret2
        exact ⟨by first | rfl | (simp [errW_none, errW_some] <;> rfl) | (simp [*, errW_none, errW_some] <;> rfl), by repeat (first | (with_reducible first | exact HB.out | apply below_alloc | apply pw_below_drewN | apply below_drew1) | exact HB.out)⟩
      · replace c7 := Bool.eq_false_iff.mpr c7
        subst c7
        have H1 : (if a0.size + a1.size ≤ 9223372036854775807 then ((spec_tmFresh.f kj2 (a0 ++ a1)).bind fun t142 => ((spec_cdText.f t142).bind fun t143 => (if 1 + a0.size ≤ 9223372036854775807 then (if ((⟨#[42]⟩ : ByteArray) ++ a0).size + 1 ≤ 9223372036854775807 then (if (((⟨#[42]⟩ : ByteArray) ++ a0) ++ (⟨#[63]⟩ : ByteArray)).size + t143.size ≤ 9223372036854775807 then (if ((((⟨#[42]⟩ : ByteArray) ++ a0) ++ (⟨#[63]⟩ : ByteArray)) ++ t143).size + 1 ≤ 9223372036854775807 then (if (((((⟨#[42]⟩ : ByteArray) ++ a0) ++ (⟨#[63]⟩ : ByteArray)) ++ t143) ++ (⟨#[46]⟩ : ByteArray)).size + a1.size ≤ 9223372036854775807 then (if ((((((⟨#[42]⟩ : ByteArray) ++ a0) ++ (⟨#[63]⟩ : ByteArray)) ++ t143) ++ (⟨#[46]⟩ : ByteArray)) ++ a1).size + 1 ≤ 9223372036854775807 then (if (((((((⟨#[42]⟩ : ByteArray) ++ a0) ++ (⟨#[63]⟩ : ByteArray)) ++ t143) ++ (⟨#[46]⟩ : ByteArray)) ++ a1) ++ (⟨#[33]⟩ : ByteArray)).size + t143.size ≤ 9223372036854775807 then (if ((((((((⟨#[42]⟩ : ByteArray) ++ a0) ++ (⟨#[63]⟩ : ByteArray)) ++ t143) ++ (⟨#[46]⟩ : ByteArray)) ++ a1) ++ (⟨#[33]⟩ : ByteArray)) ++ t143).size + 2 ≤ 9223372036854775807 then ((spec_tmIf.f kj2 (((((((((⟨#[42]⟩ : ByteArray) ++ a0) ++ (⟨#[63]⟩ : ByteArray)) ++ t143) ++ (⟨#[46]⟩ : ByteArray)) ++ a1) ++ (⟨#[33]⟩ : ByteArray)) ++ t143) ++ (⟨#[46, 48]⟩ : ByteArray))).bind fun bt144 => (some (bt144.1, bt144.2))) else (none)) else (none)) else (none)) else (none)) else (none)) else (none)) else (none)) else (none)))) else (none)) = some (r1, r2) := by rw [if_neg (show ¬ (false = true) by decide)] at H; exact H
        clear H
        have H := H1
        clear H1
        by_cases c8 : a0.size + a1.size ≤ 9223372036854775807
        · rw [if_pos c8] at H
          have c8b0 := eq_true c8
          have c8b1 : decide (a0.size + a1.size ≤ 9223372036854775807) = true := decide_eq_true c8
          try have c8b2 : (9223372036854775807 < a0.size + a1.size) = False := eq_false (Nat.not_lt.2 c8)
          try have c8b3 : (9223372036854775807 < a0.size + a1.size) = False := eq_false (by (try simp only [eq_iff_iff, iff_true] at *); (try simp only [ByteArray.size_append, ByteArray.size_extract] at *); (try simp only [ByteArray.size, List.size_toArray, List.length_cons, List.length_nil] at *); omega)
          replace H := Option.bind_eq_some_iff.mp H
          obtain ⟨t142, A90, H⟩ := H
          replace H : ((spec_cdText.f t142).bind fun t143 => (if 1 + a0.size ≤ 9223372036854775807 then (if ((⟨#[42]⟩ : ByteArray) ++ a0).size + 1 ≤ 9223372036854775807 then (if (((⟨#[42]⟩ : ByteArray) ++ a0) ++ (⟨#[63]⟩ : ByteArray)).size + t143.size ≤ 9223372036854775807 then (if ((((⟨#[42]⟩ : ByteArray) ++ a0) ++ (⟨#[63]⟩ : ByteArray)) ++ t143).size + 1 ≤ 9223372036854775807 then (if (((((⟨#[42]⟩ : ByteArray) ++ a0) ++ (⟨#[63]⟩ : ByteArray)) ++ t143) ++ (⟨#[46]⟩ : ByteArray)).size + a1.size ≤ 9223372036854775807 then (if ((((((⟨#[42]⟩ : ByteArray) ++ a0) ++ (⟨#[63]⟩ : ByteArray)) ++ t143) ++ (⟨#[46]⟩ : ByteArray)) ++ a1).size + 1 ≤ 9223372036854775807 then (if (((((((⟨#[42]⟩ : ByteArray) ++ a0) ++ (⟨#[63]⟩ : ByteArray)) ++ t143) ++ (⟨#[46]⟩ : ByteArray)) ++ a1) ++ (⟨#[33]⟩ : ByteArray)).size + t143.size ≤ 9223372036854775807 then (if ((((((((⟨#[42]⟩ : ByteArray) ++ a0) ++ (⟨#[63]⟩ : ByteArray)) ++ t143) ++ (⟨#[46]⟩ : ByteArray)) ++ a1) ++ (⟨#[33]⟩ : ByteArray)) ++ t143).size + 2 ≤ 9223372036854775807 then ((spec_tmIf.f kj2 (((((((((⟨#[42]⟩ : ByteArray) ++ a0) ++ (⟨#[63]⟩ : ByteArray)) ++ t143) ++ (⟨#[46]⟩ : ByteArray)) ++ a1) ++ (⟨#[33]⟩ : ByteArray)) ++ t143) ++ (⟨#[46, 48]⟩ : ByteArray))).bind fun bt144 => (some (bt144.1, bt144.2))) else (none)) else (none)) else (none)) else (none)) else (none)) else (none)) else (none)) else (none))) = some (r1, r2) := H
          have A9 := Aside0.mk A90
          clear A90
          replace H := Option.bind_eq_some_iff.mp H
          obtain ⟨t143, A100, H⟩ := H
          replace H : (if 1 + a0.size ≤ 9223372036854775807 then (if ((⟨#[42]⟩ : ByteArray) ++ a0).size + 1 ≤ 9223372036854775807 then (if (((⟨#[42]⟩ : ByteArray) ++ a0) ++ (⟨#[63]⟩ : ByteArray)).size + t143.size ≤ 9223372036854775807 then (if ((((⟨#[42]⟩ : ByteArray) ++ a0) ++ (⟨#[63]⟩ : ByteArray)) ++ t143).size + 1 ≤ 9223372036854775807 then (if (((((⟨#[42]⟩ : ByteArray) ++ a0) ++ (⟨#[63]⟩ : ByteArray)) ++ t143) ++ (⟨#[46]⟩ : ByteArray)).size + a1.size ≤ 9223372036854775807 then (if ((((((⟨#[42]⟩ : ByteArray) ++ a0) ++ (⟨#[63]⟩ : ByteArray)) ++ t143) ++ (⟨#[46]⟩ : ByteArray)) ++ a1).size + 1 ≤ 9223372036854775807 then (if (((((((⟨#[42]⟩ : ByteArray) ++ a0) ++ (⟨#[63]⟩ : ByteArray)) ++ t143) ++ (⟨#[46]⟩ : ByteArray)) ++ a1) ++ (⟨#[33]⟩ : ByteArray)).size + t143.size ≤ 9223372036854775807 then (if ((((((((⟨#[42]⟩ : ByteArray) ++ a0) ++ (⟨#[63]⟩ : ByteArray)) ++ t143) ++ (⟨#[46]⟩ : ByteArray)) ++ a1) ++ (⟨#[33]⟩ : ByteArray)) ++ t143).size + 2 ≤ 9223372036854775807 then ((spec_tmIf.f kj2 (((((((((⟨#[42]⟩ : ByteArray) ++ a0) ++ (⟨#[63]⟩ : ByteArray)) ++ t143) ++ (⟨#[46]⟩ : ByteArray)) ++ a1) ++ (⟨#[33]⟩ : ByteArray)) ++ t143) ++ (⟨#[46, 48]⟩ : ByteArray))).bind fun bt144 => (some (bt144.1, bt144.2))) else (none)) else (none)) else (none)) else (none)) else (none)) else (none)) else (none)) else (none)) = some (r1, r2) := H
          have A10 := Aside0.mk A100
          clear A100
          by_cases c11 : 1 + a0.size ≤ 9223372036854775807
          · rw [if_pos c11] at H
            have c11b0 := eq_true c11
            have c11b1 : decide (1 + a0.size ≤ 9223372036854775807) = true := decide_eq_true c11
            try have c11b2 : (9223372036854775807 < 1 + a0.size) = False := eq_false (Nat.not_lt.2 c11)
            try have c11b3 : (9223372036854775807 < 1 + a0.size) = False := eq_false (by (try simp only [eq_iff_iff, iff_true] at *); (try simp only [ByteArray.size_append, ByteArray.size_extract] at *); (try simp only [ByteArray.size, List.size_toArray, List.length_cons, List.length_nil] at *); omega)
            by_cases c12 : ((⟨#[42]⟩ : ByteArray) ++ a0).size + 1 ≤ 9223372036854775807
            · rw [if_pos c12] at H
              have c12b0 := eq_true c12
              have c12b1 : decide (((⟨#[42]⟩ : ByteArray) ++ a0).size + 1 ≤ 9223372036854775807) = true := decide_eq_true c12
              try have c12b2 : (9223372036854775807 < ((⟨#[42]⟩ : ByteArray) ++ a0).size + 1) = False := eq_false (Nat.not_lt.2 c12)
              try have c12b3 : (9223372036854775807 < 1 + a0.size + 1) = False := eq_false (by (try simp only [eq_iff_iff, iff_true] at *); (try simp only [ByteArray.size_append, ByteArray.size_extract] at *); (try simp only [ByteArray.size, List.size_toArray, List.length_cons, List.length_nil] at *); omega)
              by_cases c13 : (((⟨#[42]⟩ : ByteArray) ++ a0) ++ (⟨#[63]⟩ : ByteArray)).size + t143.size ≤ 9223372036854775807
              · rw [if_pos c13] at H
                have c13b0 := eq_true c13
                have c13b1 : decide ((((⟨#[42]⟩ : ByteArray) ++ a0) ++ (⟨#[63]⟩ : ByteArray)).size + t143.size ≤ 9223372036854775807) = true := decide_eq_true c13
                try have c13b2 : (9223372036854775807 < (((⟨#[42]⟩ : ByteArray) ++ a0) ++ (⟨#[63]⟩ : ByteArray)).size + t143.size) = False := eq_false (Nat.not_lt.2 c13)
                try have c13b3 : (9223372036854775807 < 1 + a0.size + 1 + t143.size) = False := eq_false (by (try simp only [eq_iff_iff, iff_true] at *); (try simp only [ByteArray.size_append, ByteArray.size_extract] at *); (try simp only [ByteArray.size, List.size_toArray, List.length_cons, List.length_nil] at *); omega)
                by_cases c14 : ((((⟨#[42]⟩ : ByteArray) ++ a0) ++ (⟨#[63]⟩ : ByteArray)) ++ t143).size + 1 ≤ 9223372036854775807
                · rw [if_pos c14] at H
                  have c14b0 := eq_true c14
                  have c14b1 : decide (((((⟨#[42]⟩ : ByteArray) ++ a0) ++ (⟨#[63]⟩ : ByteArray)) ++ t143).size + 1 ≤ 9223372036854775807) = true := decide_eq_true c14
                  try have c14b2 : (9223372036854775807 < ((((⟨#[42]⟩ : ByteArray) ++ a0) ++ (⟨#[63]⟩ : ByteArray)) ++ t143).size + 1) = False := eq_false (Nat.not_lt.2 c14)
                  try have c14b3 : (9223372036854775807 < 1 + a0.size + 1 + t143.size + 1) = False := eq_false (by (try simp only [eq_iff_iff, iff_true] at *); (try simp only [ByteArray.size_append, ByteArray.size_extract] at *); (try simp only [ByteArray.size, List.size_toArray, List.length_cons, List.length_nil] at *); omega)
                  by_cases c15 : (((((⟨#[42]⟩ : ByteArray) ++ a0) ++ (⟨#[63]⟩ : ByteArray)) ++ t143) ++ (⟨#[46]⟩ : ByteArray)).size + a1.size ≤ 9223372036854775807
                  · rw [if_pos c15] at H
                    have c15b0 := eq_true c15
                    have c15b1 : decide ((((((⟨#[42]⟩ : ByteArray) ++ a0) ++ (⟨#[63]⟩ : ByteArray)) ++ t143) ++ (⟨#[46]⟩ : ByteArray)).size + a1.size ≤ 9223372036854775807) = true := decide_eq_true c15
                    try have c15b2 : (9223372036854775807 < (((((⟨#[42]⟩ : ByteArray) ++ a0) ++ (⟨#[63]⟩ : ByteArray)) ++ t143) ++ (⟨#[46]⟩ : ByteArray)).size + a1.size) = False := eq_false (Nat.not_lt.2 c15)
                    try have c15b3 : (9223372036854775807 < 1 + a0.size + 1 + t143.size + 1 + a1.size) = False := eq_false (by (try simp only [eq_iff_iff, iff_true] at *); (try simp only [ByteArray.size_append, ByteArray.size_extract] at *); (try simp only [ByteArray.size, List.size_toArray, List.length_cons, List.length_nil] at *); omega)
                    by_cases c16 : ((((((⟨#[42]⟩ : ByteArray) ++ a0) ++ (⟨#[63]⟩ : ByteArray)) ++ t143) ++ (⟨#[46]⟩ : ByteArray)) ++ a1).size + 1 ≤ 9223372036854775807
                    · rw [if_pos c16] at H
                      have c16b0 := eq_true c16
                      have c16b1 : decide (((((((⟨#[42]⟩ : ByteArray) ++ a0) ++ (⟨#[63]⟩ : ByteArray)) ++ t143) ++ (⟨#[46]⟩ : ByteArray)) ++ a1).size + 1 ≤ 9223372036854775807) = true := decide_eq_true c16
                      try have c16b2 : (9223372036854775807 < ((((((⟨#[42]⟩ : ByteArray) ++ a0) ++ (⟨#[63]⟩ : ByteArray)) ++ t143) ++ (⟨#[46]⟩ : ByteArray)) ++ a1).size + 1) = False := eq_false (Nat.not_lt.2 c16)
                      try have c16b3 : (9223372036854775807 < 1 + a0.size + 1 + t143.size + 1 + a1.size + 1) = False := eq_false (by (try simp only [eq_iff_iff, iff_true] at *); (try simp only [ByteArray.size_append, ByteArray.size_extract] at *); (try simp only [ByteArray.size, List.size_toArray, List.length_cons, List.length_nil] at *); omega)
                      by_cases c17 : (((((((⟨#[42]⟩ : ByteArray) ++ a0) ++ (⟨#[63]⟩ : ByteArray)) ++ t143) ++ (⟨#[46]⟩ : ByteArray)) ++ a1) ++ (⟨#[33]⟩ : ByteArray)).size + t143.size ≤ 9223372036854775807
                      · rw [if_pos c17] at H
                        have c17b0 := eq_true c17
                        have c17b1 : decide ((((((((⟨#[42]⟩ : ByteArray) ++ a0) ++ (⟨#[63]⟩ : ByteArray)) ++ t143) ++ (⟨#[46]⟩ : ByteArray)) ++ a1) ++ (⟨#[33]⟩ : ByteArray)).size + t143.size ≤ 9223372036854775807) = true := decide_eq_true c17
                        try have c17b2 : (9223372036854775807 < (((((((⟨#[42]⟩ : ByteArray) ++ a0) ++ (⟨#[63]⟩ : ByteArray)) ++ t143) ++ (⟨#[46]⟩ : ByteArray)) ++ a1) ++ (⟨#[33]⟩ : ByteArray)).size + t143.size) = False := eq_false (Nat.not_lt.2 c17)
                        try have c17b3 : (9223372036854775807 < 1 + a0.size + 1 + t143.size + 1 + a1.size + 1 + t143.size) = False := eq_false (by (try simp only [eq_iff_iff, iff_true] at *); (try simp only [ByteArray.size_append, ByteArray.size_extract] at *); (try simp only [ByteArray.size, List.size_toArray, List.length_cons, List.length_nil] at *); omega)
                        by_cases c18 : ((((((((⟨#[42]⟩ : ByteArray) ++ a0) ++ (⟨#[63]⟩ : ByteArray)) ++ t143) ++ (⟨#[46]⟩ : ByteArray)) ++ a1) ++ (⟨#[33]⟩ : ByteArray)) ++ t143).size + 2 ≤ 9223372036854775807
                        · rw [if_pos c18] at H
                          have c18b0 := eq_true c18
                          have c18b1 : decide (((((((((⟨#[42]⟩ : ByteArray) ++ a0) ++ (⟨#[63]⟩ : ByteArray)) ++ t143) ++ (⟨#[46]⟩ : ByteArray)) ++ a1) ++ (⟨#[33]⟩ : ByteArray)) ++ t143).size + 2 ≤ 9223372036854775807) = true := decide_eq_true c18
                          try have c18b2 : (9223372036854775807 < ((((((((⟨#[42]⟩ : ByteArray) ++ a0) ++ (⟨#[63]⟩ : ByteArray)) ++ t143) ++ (⟨#[46]⟩ : ByteArray)) ++ a1) ++ (⟨#[33]⟩ : ByteArray)) ++ t143).size + 2) = False := eq_false (Nat.not_lt.2 c18)
                          try have c18b3 : (9223372036854775807 < 1 + a0.size + 1 + t143.size + 1 + a1.size + 1 + t143.size + 2) = False := eq_false (by (try simp only [eq_iff_iff, iff_true] at *); (try simp only [ByteArray.size_append, ByteArray.size_extract] at *); (try simp only [ByteArray.size, List.size_toArray, List.length_cons, List.length_nil] at *); omega)
                          replace H := Option.bind_eq_some_iff.mp H
                          obtain ⟨⟨t144, t145⟩, A190, H⟩ := H
                          replace H : (some (t144, t145)) = some (r1, r2) := H
                          have A19 := Aside0.mk A190
                          clear A190
                          simp only [Option.some.injEq, Prod.mk.injEq] at H
                          obtain ⟨rfl, rfl⟩ := H
                          go_wp2_with (first | ((with_reducible refine gate_callee (f := 64) rfl ?_); refine goesL_ (some 18) rfl rfl Try.func64 (by kernel_rfl) rfl #[.string (a0 ++ a1)] rfl (by (try simp only [List.map_toArray, List.map_cons, List.map_nil]); first | done | rfl | (simp only [List.length_drop, List.length_take]; rfl)) ?_; (with_reducible refine (spec_tmFresh.calls kj2 (a0 ++ a1) t142 _ A9.out).mono ?_); rintro e w' ⟨rfl, ⟨nd, rfl⟩⟩; refine ⟨_, rfl, ?_⟩) | ((with_reducible refine gate_callee (f := 63) rfl ?_); refine goesL_ (some 19) rfl rfl Try.func63 (by kernel_rfl) rfl #[.int .u8 t142] rfl (by (try simp only [List.map_toArray, List.map_cons, List.map_nil]); first | done | rfl | (simp only [List.length_drop, List.length_take]; rfl)) ?_; (with_reducible refine (spec_cdText.calls t142 t143 _ A10.out).mono ?_); rintro e w20 ⟨rfl, hb⟩; refine ⟨_, rfl, ?_⟩; have n0_ := Aside0.mk (below_step (by repeat (first | (with_reducible first | exact HB.out | apply below_alloc | apply pw_below_drewN | apply below_drew1) | exact HB.out)) hb); clear HB; have HB := n0_; clear n0_; (try clear hb); (try clear hb2); (try clear hk); (try clear hi)) | ((with_reducible refine gate_callee (f := 65) rfl ?_); refine goesL_ (some 32) rfl rfl Try.func65 (by kernel_rfl) rfl #[.string (((((((((⟨#[42]⟩ : ByteArray) ++ a0) ++ (⟨#[63]⟩ : ByteArray)) ++ t143) ++ (⟨#[46]⟩ : ByteArray)) ++ a1) ++ (⟨#[33]⟩ : ByteArray)) ++ t143) ++ (⟨#[46, 48]⟩ : ByteArray))] rfl (by (try simp only [List.map_toArray, List.map_cons, List.map_nil]); first | done | rfl | (simp only [List.length_drop, List.length_take]; rfl)) ?_; (with_reducible refine (spec_tmIf.calls kj2 (((((((((⟨#[42]⟩ : ByteArray) ++ a0) ++ (⟨#[63]⟩ : ByteArray)) ++ t143) ++ (⟨#[46]⟩ : ByteArray)) ++ a1) ++ (⟨#[33]⟩ : ByteArray)) ++ t143) ++ (⟨#[46, 48]⟩ : ByteArray)) t144 t145 _ A19.out).mono ?_); rintro e w21 ⟨rfl, hb⟩; refine ⟨_, rfl, ?_⟩; have n0_ := Aside0.mk (below_step (by repeat (first | (with_reducible first | exact HB.out | apply below_alloc | apply pw_below_drewN | apply below_drew1) | exact HB.out)) hb); clear HB; have HB := n0_; clear n0_; (try clear hb); (try clear hb2); (try clear hk); (try clear hi)))
                          go_ret2
                          exact ⟨by first | rfl | (simp [errW_none, errW_some] <;> rfl) | (simp [*, errW_none, errW_some] <;> rfl), by repeat (first | (with_reducible first | exact HB.out | apply below_alloc | apply pw_below_drewN | apply below_drew1) | exact HB.out)⟩
                        · rw [if_neg c18] at H
                          exact absurd H (by simp)
                      · rw [if_neg c17] at H
                        exact absurd H (by simp)
                    · rw [if_neg c16] at H
                      exact absurd H (by simp)
                  · rw [if_neg c15] at H
                    exact absurd H (by simp)
                · rw [if_neg c14] at H
                  exact absurd H (by simp)
              · rw [if_neg c13] at H
                exact absurd H (by simp)
            · rw [if_neg c12] at H
              exact absurd H (by simp)
          · rw [if_neg c11] at H
            exact absurd H (by simp)
        · rw [if_neg c8] at H
          exact absurd H (by simp)

end Go.Proofs.Ytfcadppidgkoaaa.PForwardAt
