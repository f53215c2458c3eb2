-- PRINTED BY print.sh 35421559b90ae4d0a3588c463048766b98c2df88dd9212a6774a882060cdf62d: not written by this session
import Derived.Test.YtfcadppidgkoaaaPWriteCellx0
import Derived.Test.YtfcadppidgkoaaaPWriteCellx4
import Derived.Test.YtfcadppidgkoaaaPWriteCellx5
namespace Go.Proofs.Ytfcadppidgkoaaa.PWriteCell
open Go.RowKit Go.Proofs.YtfcadppidgkoaaaW.PrintWords Go.Proofs.YtfcadppidgkoaaaW.PrintLast Go.Proofs.YtfcadppidgkoaaaW.PrintMore
attribute [local go_sem] max2_int min2_int max_two min_two max_three min_three max_four min_four   -- for this text's walks alone
set_option linter.unusedVariables false
set_option linter.unusedSimpArgs false

/-! ### spec_tmFresh: function 64 -/
mutual
def spec_tmFresh.l0 : Nat → ByteArray → Int → Option (Int)
  | 0, _, _ => none
  | k + 1, x0, x3 => if x3 ≤ 122 then ((spec_tmIn.f k x0 x3).bind fun t160 => (if t160 = true then (spec_tmFresh.l0 k x0 ((x3 + 1) % 256)) else (some x3))) else (spec_tmFresh.l1 k x0 128)
def spec_tmFresh.l1 : Nat → ByteArray → Int → Option (Int)
  | 0, _, _ => none
  | k + 1, x0, x4 => if x4 < 191 then ((spec_tmIn.f k x0 x4).bind fun t161 => (if t161 = true then (spec_tmFresh.l1 k x0 ((x4 + 1) % 256)) else (some x4))) else (some x4)
end
def spec_tmFresh.f (k : Nat) (a0 : ByteArray) : Option (Int) := spec_tmFresh.l0 k a0 97
theorem spec_tmFresh.mono_l : ∀ k, (∀ y0 y1, LeO (spec_tmFresh.l0 k y0 y1) (spec_tmFresh.l0 (k + 1) y0 y1)) ∧ (∀ y0 y1, LeO (spec_tmFresh.l1 k y0 y1) (spec_tmFresh.l1 (k + 1) y0 y1))
  | 0 => ⟨fun _ _ r h => by simp [spec_tmFresh.l0] at h, fun _ _ r h => by simp [spec_tmFresh.l1] at h⟩
  | k + 1 => by
    obtain ⟨ih0, ih1⟩ := spec_tmFresh.mono_l k
    refine ⟨?_, ?_⟩
    · intro y0 y1
      unfold spec_tmFresh.l0
      repeat' first
      | (with_reducible exact ih0 _ _)
      | (with_reducible exact ih1 _ _)
      | (with_reducible exact spec_tmIn.mono _ _ _)
      | (with_reducible exact LeO.refl _)
      | (with_reducible exact LeO.none _)
      | (with_reducible refine LeO.ite ?_ ?_)
      | (with_reducible refine LeO.bind ?_ (fun _ => ?_))
      | exact ih0 _ _
      | exact ih1 _ _
      | exact spec_tmIn.mono _ _ _
      | exact LeO.none _
      | refine LeO.ite ?_ ?_
      | refine LeO.bind ?_ (fun _ => ?_)
    · intro y0 y1
      unfold spec_tmFresh.l1
      repeat' first
      | (with_reducible exact ih0 _ _)
      | (with_reducible exact ih1 _ _)
      | (with_reducible exact spec_tmIn.mono _ _ _)
      | (with_reducible exact LeO.refl _)
      | (with_reducible exact LeO.none _)
      | (with_reducible refine LeO.ite ?_ ?_)
      | (with_reducible refine LeO.bind ?_ (fun _ => ?_))
      | exact ih0 _ _
      | exact ih1 _ _
      | exact spec_tmIn.mono _ _ _
      | exact LeO.none _
      | refine LeO.ite ?_ ?_
      | refine LeO.bind ?_ (fun _ => ?_)
theorem spec_tmFresh.mono : ∀ a0 k, LeO (spec_tmFresh.f k a0) (spec_tmFresh.f (k + 1) a0) := by
  intro a0 k
  obtain ⟨ih0, ih1⟩ := spec_tmFresh.mono_l k
  unfold spec_tmFresh.f
  repeat' first
      | (with_reducible exact ih0 _ _)
      | (with_reducible exact ih1 _ _)
      | (with_reducible exact spec_tmIn.mono _ _ _)
      | (with_reducible exact LeO.refl _)
      | (with_reducible exact LeO.none _)
      | (with_reducible refine LeO.ite ?_ ?_)
      | (with_reducible refine LeO.bind ?_ (fun _ => ?_))
      | exact ih0 _ _
      | exact ih1 _ _
      | exact spec_tmIn.mono _ _ _
      | exact LeO.none _
      | refine LeO.ite ?_ ?_
      | refine LeO.bind ?_ (fun _ => ?_)
set_option maxHeartbeats 8000000 in
set_option maxRecDepth 100000 in
theorem spec_tmFresh.calls (k : Nat) (a0 : ByteArray) (r : Int) (w : World) (h : spec_tmFresh.f k a0 = some r) :
    Calls Try.prog 64 #[.string a0] w fun e w' => e = .returned (.int .u8 r) ∧ Drawn0 w w' := by
  have H : (spec_tmFresh.l0 k a0 97) = some r := h
  clear h
  have H' := Aside0.mk H
  clear H
  go_enter Try.func64, Try.ntmps64
  go_wp2
  go_loopg [3] k (fun kq v3 w' => ∃ (x3_1 : Int), v3 = .int .u8 x3_1 ∧ Aside0 (spec_tmFresh.l0 kq a0 x3_1 = some r) ∧ Aside0 (kq ≤ k) ∧ Drawn0 w w')
  case atStart => exact ⟨(97), (by first | rfl | (simp; done) | (simp [*]; done)), H', ⟨Nat.le_refl _⟩, by repeat (first | exact Drawn0.refl _ | apply Drawn0.step)⟩
  case round =>
    clear H'
    obtain ⟨x3_1, rfl, HA, HK1, ⟨m1, rfl⟩⟩ := hrel
    cases gk with
    | zero => exact absurd HA.out (by simp [spec_tmFresh.l0])
    | succ k1 =>
      have H := HA.out
      clear HA
      simp only [spec_tmFresh.l0] at H
      by_cases c2 : x3_1 ≤ 122
      · rw [if_pos c2] at H
        have c2b0 : decide (x3_1 ≤ 122) = true := decide_eq_true c2
        clear c2
        replace H := Option.bind_eq_some_iff.mp H
        obtain ⟨t160, A30, H⟩ := H
        replace H : (if t160 = true then (spec_tmFresh.l0 k1 a0 ((x3_1 + 1) % 256)) else (some x3_1)) = some r := H
        have A3 := Aside0.mk A30
        clear A30
        by_cases c4 : t160 = true
        · subst c4
          have H1 : (spec_tmFresh.l0 k1 a0 ((x3_1 + 1) % 256)) = some r := by rw [if_pos rfl] at H; exact H
          clear H
          have H := H1
          clear H1
          have H' := Aside0.mk H
          clear H
          go_wp2_with (first | ((with_reducible refine gate_callee (f := 47) rfl ?_); refine goesL_ (some 11) rfl rfl Try.func47 (by kernel_rfl) rfl #[.string a0, .int .u8 x3_1] rfl (by (try simp only [List.map_toArray, List.map_cons, List.map_nil]); first | done | rfl | (simp only [List.length_drop, List.length_take]; rfl)) ?_; (with_reducible refine (spec_tmIn.calls k1 a0 x3_1 true _ A3.out).mono ?_); rintro e w' ⟨rfl, ⟨nd, rfl⟩⟩; refine ⟨_, rfl, ?_⟩))
          go_roundg k1
          case measure => have := HK1.out; omega
          case rel => exact ⟨((x3_1 + 1) % 256), (by first | rfl | (simp; done) | (simp [*]; done)), H', ⟨by have := HK1.out; omega⟩, by repeat (first | exact Drawn0.refl _ | apply Drawn0.step)⟩
        · replace c4 := Bool.eq_false_iff.mpr c4
          subst c4
          have H1 : (some x3_1) = some r := by rw [if_neg (show ¬ (false = true) by decide)] at H; exact H
          clear H
          have H := H1
          clear H1
          obtain rfl := Option.some.inj H
          go_wp2_with (first | ((with_reducible refine gate_callee (f := 47) rfl ?_); refine goesL_ (some 11) rfl rfl Try.func47 (by kernel_rfl) rfl #[.string a0, .int .u8 x3_1] rfl (by (try simp only [List.map_toArray, List.map_cons, List.map_nil]); first | done | rfl | (simp only [List.length_drop, List.length_take]; rfl)) ?_; (with_reducible refine (spec_tmIn.calls k1 a0 x3_1 false _ A3.out).mono ?_); rintro e w' ⟨rfl, ⟨nd, rfl⟩⟩; refine ⟨_, rfl, ?_⟩))
          go_ret
          exact ⟨by first | rfl | (simp; done) | (simp [*]; done), by repeat (first | exact Drawn0.refl _ | apply Drawn0.step)⟩
      · rw [if_neg c2] at H
        have c2b0 : decide (x3_1 ≤ 122) = false := decide_eq_false c2
        clear c2
        have H' := Aside0.mk H
        clear H
        go_wp2
        go_loopg [4] k1 (fun kq v4 w' => ∃ (x4_2 : Int), v4 = .int .u8 x4_2 ∧ Aside0 (spec_tmFresh.l1 kq a0 x4_2 = some r) ∧ Aside0 (kq ≤ k1) ∧ Drawn0 w w')
        case atStart => exact ⟨(128), (by first | rfl | (simp; done) | (simp [*]; done)), H', ⟨Nat.le_refl _⟩, by repeat (first | exact Drawn0.refl _ | apply Drawn0.step)⟩
        case round =>
          clear H'
          try clear c2
          try clear c2b0
          try clear p2
          try clear c4
          obtain ⟨x4_2, rfl, HA, HK2, ⟨m2, rfl⟩⟩ := hrel
          cases gk with
          | zero => exact absurd HA.out (by simp [spec_tmFresh.l1])
          | succ k2 =>
            have H := HA.out
            clear HA
            simp only [spec_tmFresh.l1] at H
            by_cases c5 : x4_2 < 191
            · rw [if_pos c5] at H
              have c5b0 : decide (x4_2 < 191) = true := decide_eq_true c5
              clear c5
              replace H := Option.bind_eq_some_iff.mp H
              obtain ⟨t161, A60, H⟩ := H
              replace H : (if t161 = true then (spec_tmFresh.l1 k2 a0 ((x4_2 + 1) % 256)) else (some x4_2)) = some r := H
              have A6 := Aside0.mk A60
              clear A60
              by_cases c7 : t161 = true
              · subst c7
                have H1 : (spec_tmFresh.l1 k2 a0 ((x4_2 + 1) % 256)) = some r := by rw [if_pos rfl] at H; exact H
                clear H
                have H := H1
                clear H1
                have H' := Aside0.mk H
                clear H
                go_wp2_with (first | (go_at_call 47; (with_reducible refine (spec_tmIn.calls k2 a0 x4_2 true _ A6.out).mono ?_); rintro e w' ⟨rfl, ⟨nd, rfl⟩⟩))
                go_roundg k2
                case measure => have := HK1.out; have := HK2.out; omega
                case rel => exact ⟨((x4_2 + 1) % 256), (by first | rfl | (simp; done) | (simp [*]; done)), H', ⟨by have := HK1.out; have := HK2.out; omega⟩, by repeat (first | exact Drawn0.refl _ | apply Drawn0.step)⟩
              · replace c7 := Bool.eq_false_iff.mpr c7
                subst c7
                have H1 : (some x4_2) = some r := by rw [if_neg (show ¬ (false = true) by decide)] at H; exact H
                clear H
                have H := H1
                clear H1
                obtain rfl := Option.some.inj H
                go_wp2_with (first | (go_at_call 47; (with_reducible refine (spec_tmIn.calls k2 a0 x4_2 false _ A6.out).mono ?_); rintro e w' ⟨rfl, ⟨nd, rfl⟩⟩))
                go_ret
                exact ⟨by first | rfl | (simp; done) | (simp [*]; done), by repeat (first | exact Drawn0.refl _ | apply Drawn0.step)⟩
            · rw [if_neg c5] at H
              have c5b0 : decide (x4_2 < 191) = false := decide_eq_false c5
              clear c5
              obtain rfl := Option.some.inj H
              go_wp2
              go_ret
              exact ⟨by first | rfl | (simp; done) | (simp [*]; done), by repeat (first | exact Drawn0.refl _ | apply Drawn0.step)⟩

/-! ### spec_tmIf: function 65 -/
def spec_tmIf.f (k : Nat) (a0 : ByteArray) : Option (ByteArray × Bool) := (spec_tmGood.f k a0).bind fun t162 => (if t162 = true then (some (a0, true)) else (some ((⟨#[]⟩ : ByteArray), false)))
theorem spec_tmIf.mono : ∀ a0 k, LeO (spec_tmIf.f k a0) (spec_tmIf.f (k + 1) a0) := by
  intro a0 k
  unfold spec_tmIf.f
  repeat' first
      | (with_reducible exact spec_tmGood.mono _ _)
      | (with_reducible exact LeO.refl _)
      | (with_reducible exact LeO.none _)
      | (with_reducible refine LeO.ite ?_ ?_)
      | (with_reducible refine LeO.bind ?_ (fun _ => ?_))
      | exact spec_tmGood.mono _ _
      | exact LeO.none _
      | refine LeO.ite ?_ ?_
      | refine LeO.bind ?_ (fun _ => ?_)
set_option maxHeartbeats 8000000 in
set_option maxRecDepth 100000 in
theorem spec_tmIf.calls (k : Nat) (a0 : ByteArray) (r1 : ByteArray) (r2 : Bool) (w : World) (h : spec_tmIf.f k a0 = some (r1, r2)) :
    Calls Try.prog 65 #[.string a0] w fun e w' => e = .returned (.tuple #[.string r1, .bool r2]) ∧ Below w.heap.size w w' := by
  have HB := Aside0.mk (Below.refl w.heap.size w)
  have H : ((spec_tmGood.f k a0).bind fun t162 => (if t162 = true then (some (a0, true)) else (some ((⟨#[]⟩ : ByteArray), false)))) = some (r1, r2) := h
  clear h
  replace H := Option.bind_eq_some_iff.mp H
  obtain ⟨t162, A20, H⟩ := H
  replace H : (if t162 = true then (some (a0, true)) else (some ((⟨#[]⟩ : ByteArray), false))) = some (r1, r2) := H
  have A2 := Aside0.mk A20
  clear A20
  by_cases c3 : t162 = true
  · subst c3
    have H1 : (some (a0, true)) = some (r1, r2) := by rw [if_pos rfl] at H; exact H
    clear H
    have H := H1
    clear H1
    simp only [Option.some.injEq, Prod.mk.injEq] at H
    obtain ⟨rfl, rfl⟩ := H
    go_enter Try.func65, Try.ntmps65
    go_wp2_with (first | ((with_reducible refine gate_callee (f := 44) rfl ?_); refine goesL_ (some 5) rfl rfl Try.func44 (by kernel_rfl) rfl #[.string a0] rfl (by (try simp only [List.map_toArray, List.map_cons, List.map_nil]); first | done | rfl | (simp only [List.length_drop, List.length_take]; rfl)) ?_; (with_reducible refine (spec_tmGood.calls k a0 true _ A2.out).mono ?_); rintro e w4 ⟨rfl, hb⟩; refine ⟨_, rfl, ?_⟩; have n0_ := Aside0.mk (below_step (by repeat (first | (with_reducible first | exact HB.out | apply below_alloc | apply pw_below_drewN | apply below_drew1) | exact HB.out)) hb); clear HB; have HB := n0_; clear n0_; (try clear hb); (try clear hb2); (try clear hk); (try clear hi)))
    go_ret2
    exact ⟨by first | rfl | (simp [errW_none, errW_some] <;> rfl) | (simp [*, errW_none, errW_some] <;> rfl), by repeat (first | (with_reducible first | exact HB.out | apply below_alloc | apply pw_below_drewN | apply below_drew1) | exact HB.out)⟩
  · replace c3 := Bool.eq_false_iff.mpr c3
    subst c3
    have H1 : (some ((⟨#[]⟩ : ByteArray), false)) = some (r1, r2) := by rw [if_neg (show ¬ (false = true) by decide)] at H; exact H
    clear H
    have H := H1
    clear H1
    simp only [Option.some.injEq, Prod.mk.injEq] at H
    obtain ⟨rfl, rfl⟩ := H
    go_enter Try.func65, Try.ntmps65
    go_wp2_with (first | ((with_reducible refine gate_callee (f := 44) rfl ?_); refine goesL_ (some 5) rfl rfl Try.func44 (by kernel_rfl) rfl #[.string a0] rfl (by (try simp only [List.map_toArray, List.map_cons, List.map_nil]); first | done | rfl | (simp only [List.length_drop, List.length_take]; rfl)) ?_; (with_reducible refine (spec_tmGood.calls k a0 false _ A2.out).mono ?_); rintro e w5 ⟨rfl, hb⟩; refine ⟨_, rfl, ?_⟩; have n0_ := Aside0.mk (below_step (by repeat (first | (with_reducible first | exact HB.out | apply below_alloc | apply pw_below_drewN | apply below_drew1) | exact HB.out)) hb); clear HB; have HB := n0_; clear n0_; (try clear hb); (try clear hb2); (try clear hk); (try clear hi)))
    go_ret2
    exact ⟨by first | rfl | (simp [errW_none, errW_some] <;> rfl) | (simp [*, errW_none, errW_some] <;> rfl), by repeat (first | (with_reducible first | exact HB.out | apply below_alloc | apply pw_below_drewN | apply below_drew1) | exact HB.out)⟩

/-! ### spec_WriteCell: function 32 -/
def spec_WriteCell.j0 : Nat → ByteArray → ByteArray → ByteArray → Bool → Option (ByteArray × Bool)
  | 0, _, _, _, _ => none
  | k + 1, x0, x1, x2, x21 => if x21 = true then (some ((⟨#[]⟩ : ByteArray), false)) else (if x0.size + x1.size ≤ 9223372036854775807 then ((spec_tmFree.f k x2).bind fun t166 => (if (x0 ++ x1).size + t166.size ≤ 9223372036854775807 then ((spec_tmFresh.f k ((x0 ++ x1) ++ t166)).bind fun t167 => ((spec_cdText.f t167).bind fun t168 => (if x0.size + 1 ≤ 9223372036854775807 then (if (x0 ++ (⟨#[63]⟩ : ByteArray)).size + t168.size ≤ 9223372036854775807 then (if ((x0 ++ (⟨#[63]⟩ : ByteArray)) ++ t168).size + 2 ≤ 9223372036854775807 then (if (((x0 ++ (⟨#[63]⟩ : ByteArray)) ++ t168) ++ (⟨#[46, 40]⟩ : ByteArray)).size + x0.size ≤ 9223372036854775807 then (if ((((x0 ++ (⟨#[63]⟩ : ByteArray)) ++ t168) ++ (⟨#[46, 40]⟩ : ByteArray)) ++ x0).size + 1 ≤ 9223372036854775807 then (if (((((x0 ++ (⟨#[63]⟩ : ByteArray)) ++ t168) ++ (⟨#[46, 40]⟩ : ByteArray)) ++ x0) ++ (⟨#[33]⟩ : ByteArray)).size + x1.size ≤ 9223372036854775807 then (if ((((((x0 ++ (⟨#[63]⟩ : ByteArray)) ++ t168) ++ (⟨#[46, 40]⟩ : ByteArray)) ++ x0) ++ (⟨#[33]⟩ : ByteArray)) ++ x1).size + 3 ≤ 9223372036854775807 then (if (((((((x0 ++ (⟨#[63]⟩ : ByteArray)) ++ t168) ++ (⟨#[46, 40]⟩ : ByteArray)) ++ x0) ++ (⟨#[33]⟩ : ByteArray)) ++ x1) ++ (⟨#[46, 48, 38]⟩ : ByteArray)).size + x2.size ≤ 9223372036854775807 then (if ((((((((x0 ++ (⟨#[63]⟩ : ByteArray)) ++ t168) ++ (⟨#[46, 40]⟩ : ByteArray)) ++ x0) ++ (⟨#[33]⟩ : ByteArray)) ++ x1) ++ (⟨#[46, 48, 38]⟩ : ByteArray)) ++ x2).size + 1 ≤ 9223372036854775807 then ((spec_tmIf.f k (((((((((x0 ++ (⟨#[63]⟩ : ByteArray)) ++ t168) ++ (⟨#[46, 40]⟩ : ByteArray)) ++ x0) ++ (⟨#[33]⟩ : ByteArray)) ++ x1) ++ (⟨#[46, 48, 38]⟩ : ByteArray)) ++ x2) ++ (⟨#[41]⟩ : ByteArray))).bind fun bt169 => (some (bt169.1, bt169.2))) else (none)) else (none)) else (none)) else (none)) else (none)) else (none)) else (none)) else (none)) else (none)))) else (none))) else (none))
def spec_WriteCell.f (k : Nat) (a0 : ByteArray) (a1 : ByteArray) (a2 : ByteArray) : Option (ByteArray × Bool) := (spec_tmOne.f a0).bind fun t163 => (if t163 = true then ((spec_tmOne.f a1).bind fun t164 => (if t164 = true then ((spec_tmGood.f k a2).bind fun t165 => (spec_WriteCell.j0 k a0 a1 a2 (!t165))) else (spec_WriteCell.j0 k a0 a1 a2 true))) else (spec_WriteCell.j0 k a0 a1 a2 true))
theorem spec_WriteCell.mono_l : ∀ k, (∀ y0 y1 y2 y3, LeO (spec_WriteCell.j0 k y0 y1 y2 y3) (spec_WriteCell.j0 (k + 1) y0 y1 y2 y3))
  | 0 => fun _ _ _ _ r h => by simp [spec_WriteCell.j0] at h
  | k + 1 => by
    have ih0 := spec_WriteCell.mono_l k
    · intro y0 y1 y2 y3
      unfold spec_WriteCell.j0
      repeat' first
      | (with_reducible exact ih0 _ _ _ _)
      | (with_reducible exact spec_tmFree.mono _ _)
      | (with_reducible exact spec_tmFresh.mono _ _)
      | (with_reducible exact spec_tmGood.mono _ _)
      | (with_reducible exact spec_tmIf.mono _ _)
      | (with_reducible exact LeO.refl _)
      | (with_reducible exact LeO.none _)
      | (with_reducible refine LeO.ite ?_ ?_)
      | (with_reducible refine LeO.bind ?_ (fun _ => ?_))
      | exact ih0 _ _ _ _
      | exact spec_tmFree.mono _ _
      | exact spec_tmFresh.mono _ _
      | exact spec_tmGood.mono _ _
      | exact spec_tmIf.mono _ _
      | exact LeO.none _
      | refine LeO.ite ?_ ?_
      | refine LeO.bind ?_ (fun _ => ?_)
theorem spec_WriteCell.mono : ∀ a0 a1 a2 k, LeO (spec_WriteCell.f k a0 a1 a2) (spec_WriteCell.f (k + 1) a0 a1 a2) := by
  intro a0 a1 a2 k
  have ih0 := spec_WriteCell.mono_l k
  unfold spec_WriteCell.f
  repeat' first
      | (with_reducible exact ih0 _ _ _ _)
      | (with_reducible exact spec_tmFree.mono _ _)
      | (with_reducible exact spec_tmFresh.mono _ _)
      | (with_reducible exact spec_tmGood.mono _ _)
      | (with_reducible exact spec_tmIf.mono _ _)
      | (with_reducible exact LeO.refl _)
      | (with_reducible exact LeO.none _)
      | (with_reducible refine LeO.ite ?_ ?_)
      | (with_reducible refine LeO.bind ?_ (fun _ => ?_))
      | exact ih0 _ _ _ _
      | exact spec_tmFree.mono _ _
      | exact spec_tmFresh.mono _ _
      | exact spec_tmGood.mono _ _
      | exact spec_tmIf.mono _ _
      | exact LeO.none _
      | refine LeO.ite ?_ ?_
      | refine LeO.bind ?_ (fun _ => ?_)
set_option maxHeartbeats 8000000 in
set_option maxRecDepth 100000 in
theorem spec_WriteCell.calls (k : Nat) (a0 : ByteArray) (a1 : ByteArray) (a2 : ByteArray) (r1 : ByteArray) (r2 : Bool) (w : World) (h : spec_WriteCell.f k a0 a1 a2 = some (r1, r2)) :
    Calls Try.prog 32 #[.string a0, .string a1, .string a2] w fun e w' => e = .returned (.tuple #[.string r1, .bool r2]) ∧ Below w.heap.size w w' := by
  have HB := Aside0.mk (Below.refl w.heap.size w)
  have H : ((spec_tmOne.f a0).bind fun t163 => (if t163 = true then ((spec_tmOne.f a1).bind fun t164 => (if t164 = true then ((spec_tmGood.f k a2).bind fun t165 => (spec_WriteCell.j0 k a0 a1 a2 (!t165))) else (spec_WriteCell.j0 k a0 a1 a2 true))) else (spec_WriteCell.j0 k a0 a1 a2 true))) = some (r1, r2) := h
  clear h
  have HC4 := Aside0.mk H
  clear H
  go_enter Try.func32, Try.ntmps32
  go_upto_region 1 with (fail)
  go_cut [21] (fun v21 wc => ∃ (kq : Nat) (x21_3 : Bool), v21 = .bool x21_3 ∧ Aside0 (spec_WriteCell.j0 kq a0 a1 a2 x21_3 = some (r1, r2)) ∧ Aside0 (kq ≤ k) ∧ Aside0 (Below w.heap.size w wc))
  case first =>
    have H := HC4.out
    clear HC4
    replace H := Option.bind_eq_some_iff.mp H
    obtain ⟨t163, A50, H⟩ := H
    replace H : (if t163 = true then ((spec_tmOne.f a1).bind fun t164 => (if t164 = true then ((spec_tmGood.f k a2).bind fun t165 => (spec_WriteCell.j0 k a0 a1 a2 (!t165))) else (spec_WriteCell.j0 k a0 a1 a2 true))) else (spec_WriteCell.j0 k a0 a1 a2 true)) = some (r1, r2) := H
    have A5 := Aside0.mk A50
    clear A50
    by_cases c6 : t163 = true
    · subst c6
      have H1 : ((spec_tmOne.f a1).bind fun t164 => (if t164 = true then ((spec_tmGood.f k a2).bind fun t165 => (spec_WriteCell.j0 k a0 a1 a2 (!t165))) else (spec_WriteCell.j0 k a0 a1 a2 true))) = some (r1, r2) := by rw [if_pos rfl] at H; exact H
      clear H
      have H := H1
      clear H1
      replace H := Option.bind_eq_some_iff.mp H
      obtain ⟨t164, A70, H⟩ := H
      replace H : (if t164 = true then ((spec_tmGood.f k a2).bind fun t165 => (spec_WriteCell.j0 k a0 a1 a2 (!t165))) else (spec_WriteCell.j0 k a0 a1 a2 true)) = some (r1, r2) := H
      have A7 := Aside0.mk A70
      clear A70
      by_cases c8 : t164 = true
      · subst c8
        have H1 : ((spec_tmGood.f k a2).bind fun t165 => (spec_WriteCell.j0 k a0 a1 a2 (!t165))) = some (r1, r2) := by rw [if_pos rfl] at H; exact H
        clear H
        have H := H1
        clear H1
        replace H := Option.bind_eq_some_iff.mp H
        obtain ⟨t165, A90, H⟩ := H
        replace H : (spec_WriteCell.j0 k a0 a1 a2 (!t165)) = some (r1, r2) := H
        have A9 := Aside0.mk A90
        clear A90
        have H' := Aside0.mk H
        clear H
        go_wp2_with (first | ((with_reducible refine gate_callee (f := 62) rfl ?_); refine goesL_ (some 10) rfl rfl Try.func62 (by kernel_rfl) rfl #[.string a0] rfl (by (try simp only [List.map_toArray, List.map_cons, List.map_nil]); first | done | rfl | (simp only [List.length_drop, List.length_take]; rfl)) ?_; (with_reducible refine (spec_tmOne.calls a0 true _ A5.out).mono ?_); rintro e w' ⟨rfl, ⟨nd, rfl⟩⟩; refine ⟨_, rfl, ?_⟩) | (go_at_call 62; (with_reducible refine (spec_tmOne.calls a1 true _ A7.out).mono ?_); rintro e w' ⟨rfl, ⟨nd, rfl⟩⟩) | (go_at_call 44; (with_reducible refine (spec_tmGood.calls k a2 t165 _ A9.out).mono ?_); rintro e w10 ⟨rfl, hb⟩; have n0_ := Aside0.mk (below_step (by repeat (first | (with_reducible first | exact HB.out | apply below_alloc | apply pw_below_drewN | apply below_drew1) | exact HB.out)) hb); clear HB; have HB := n0_; clear n0_; (try clear hb); (try clear hb2); (try clear hk); (try clear hi)))
        go_meet
        case rel => exact ⟨_, (!t165), (by first | rfl | (simp; done) | (simp [*]; done)), H', ⟨by first | omega | exact Nat.le_refl _⟩, ⟨by repeat (first | (with_reducible first | exact HB.out | apply below_alloc | apply pw_below_drewN | apply below_drew1) | exact HB.out)⟩⟩
      · replace c8 := Bool.eq_false_iff.mpr c8
        subst c8
        have H1 : (spec_WriteCell.j0 k a0 a1 a2 true) = some (r1, r2) := by rw [if_neg (show ¬ (false = true) by decide)] at H; exact H
        clear H
        have H := H1
        clear H1
        have H' := Aside0.mk H
        clear H
        go_wp2_with (first | ((with_reducible refine gate_callee (f := 62) rfl ?_); refine goesL_ (some 10) rfl rfl Try.func62 (by kernel_rfl) rfl #[.string a0] rfl (by (try simp only [List.map_toArray, List.map_cons, List.map_nil]); first | done | rfl | (simp only [List.length_drop, List.length_take]; rfl)) ?_; (with_reducible refine (spec_tmOne.calls a0 true _ A5.out).mono ?_); rintro e w' ⟨rfl, ⟨nd, rfl⟩⟩; refine ⟨_, rfl, ?_⟩) | (go_at_call 62; (with_reducible refine (spec_tmOne.calls a1 false _ A7.out).mono ?_); rintro e w' ⟨rfl, ⟨nd, rfl⟩⟩))
        go_meet
        case rel => exact ⟨_, (true), (by first | rfl | (simp; done) | (simp [*]; done)), H', ⟨by first | omega | exact Nat.le_refl _⟩, ⟨by repeat (first | (with_reducible first | exact HB.out | apply below_alloc | apply pw_below_drewN | apply below_drew1) | exact HB.out)⟩⟩
    · replace c6 := Bool.eq_false_iff.mpr c6
      subst c6
      have H1 : (spec_WriteCell.j0 k a0 a1 a2 true) = some (r1, r2) := by rw [if_neg (show ¬ (false = true) by decide)] at H; exact H
      clear H
      have H := H1
      clear H1
      have H' := Aside0.mk H
      clear H
      go_wp2_with (first | ((with_reducible refine gate_callee (f := 62) rfl ?_); refine goesL_ (some 10) rfl rfl Try.func62 (by kernel_rfl) rfl #[.string a0] rfl (by (try simp only [List.map_toArray, List.map_cons, List.map_nil]); first | done | rfl | (simp only [List.length_drop, List.length_take]; rfl)) ?_; (with_reducible refine (spec_tmOne.calls a0 false _ A5.out).mono ?_); rintro e w' ⟨rfl, ⟨nd, rfl⟩⟩; refine ⟨_, rfl, ?_⟩))
      go_meet
      case rel => exact ⟨_, (true), (by first | rfl | (simp; done) | (simp [*]; done)), H', ⟨by first | omega | exact Nat.le_refl _⟩, ⟨by repeat (first | (with_reducible first | exact HB.out | apply below_alloc | apply pw_below_drewN | apply below_drew1) | exact HB.out)⟩⟩
  case rest =>
    clear HC4
    try clear p2
    try clear c3
    try clear c6
    try clear c8
    obtain ⟨kq, x21_3, rfl, HA, HJ3, HB⟩ := hcut
    cases kq with
    | zero => exact absurd HA.out (by simp [spec_WriteCell.j0])
    | succ kj3 =>
      have H := HA.out
      clear HA
      simp only [spec_WriteCell.j0] at H
      by_cases c11 : x21_3 = true
      · subst c11
        have H1 : (some ((⟨#[]⟩ : ByteArray), false)) = some (r1, r2) := by rw [if_pos rfl] at H; exact H
        clear H
        have H := H1
        clear H1
        simp only [Option.some.injEq, Prod.mk.injEq] at H
        obtain ⟨rfl, rfl⟩ := H
        go_wp2
        go_ret2
        exact ⟨by first | rfl | (simp [errW_none, errW_some] <;> rfl) | (simp [*, errW_none, errW_some] <;> rfl), by repeat (first | (with_reducible first | exact HB.out | apply below_alloc | apply pw_below_drewN | apply below_drew1) | exact HB.out)⟩
      · replace c11 := Bool.eq_false_iff.mpr c11
        subst c11
        have H1 : (if a0.size + a1.size ≤ 9223372036854775807 then ((spec_tmFree.f kj3 a2).bind fun t166 => (if (a0 ++ a1).size + t166.size ≤ 9223372036854775807 then ((spec_tmFresh.f kj3 ((a0 ++ a1) ++ t166)).bind fun t167 => ((spec_cdText.f t167).bind fun t168 => (if a0.size + 1 ≤ 9223372036854775807 then (if (a0 ++ (⟨#[63]⟩ : ByteArray)).size + t168.size ≤ 9223372036854775807 then (if ((a0 ++ (⟨#[63]⟩ : ByteArray)) ++ t168).size + 2 ≤ 9223372036854775807 then (if (((a0 ++ (⟨#[63]⟩ : ByteArray)) ++ t168) ++ (⟨#[46, 40]⟩ : ByteArray)).size + a0.size ≤ 9223372036854775807 then (if ((((a0 ++ (⟨#[63]⟩ : ByteArray)) ++ t168) ++ (⟨#[46, 40]⟩ : ByteArray)) ++ a0).size + 1 ≤ 9223372036854775807 then (if (((((a0 ++ (⟨#[63]⟩ : ByteArray)) ++ t168) ++ (⟨#[46, 40]⟩ : ByteArray)) ++ a0) ++ (⟨#[33]⟩ : ByteArray)).size + a1.size ≤ 9223372036854775807 then (if ((((((a0 ++ (⟨#[63]⟩ : ByteArray)) ++ t168) ++ (⟨#[46, 40]⟩ : ByteArray)) ++ a0) ++ (⟨#[33]⟩ : ByteArray)) ++ a1).size + 3 ≤ 9223372036854775807 then (if (((((((a0 ++ (⟨#[63]⟩ : ByteArray)) ++ t168) ++ (⟨#[46, 40]⟩ : ByteArray)) ++ a0) ++ (⟨#[33]⟩ : ByteArray)) ++ a1) ++ (⟨#[46, 48, 38]⟩ : ByteArray)).size + a2.size ≤ 9223372036854775807 then (if ((((((((a0 ++ (⟨#[63]⟩ : ByteArray)) ++ t168) ++ (⟨#[46, 40]⟩ : ByteArray)) ++ a0) ++ (⟨#[33]⟩ : ByteArray)) ++ a1) ++ (⟨#[46, 48, 38]⟩ : ByteArray)) ++ a2).size + 1 ≤ 9223372036854775807 then ((spec_tmIf.f kj3 (((((((((a0 ++ (⟨#[63]⟩ : ByteArray)) ++ t168) ++ (⟨#[46, 40]⟩ : ByteArray)) ++ a0) ++ (⟨#[33]⟩ : ByteArray)) ++ a1) ++ (⟨#[46, 48, 38]⟩ : ByteArray)) ++ a2) ++ (⟨#[41]⟩ : ByteArray))).bind fun bt169 => (some (bt169.1, bt169.2))) else (none)) else (none)) else (none)) else (none)) else (none)) else (none)) else (none)) else (none)) else (none)))) else (none))) else (none)) = some (r1, r2) := by rw [if_neg (show ¬ (false = true) by decide)] at H; exact H
        clear H
        have H := H1
        clear H1
        by_cases c12 : a0.size + a1.size ≤ 9223372036854775807
        · rw [if_pos c12] at H
          have c12b0 := eq_true c12
          have c12b1 : decide (a0.size + a1.size ≤ 9223372036854775807) = true := decide_eq_true c12
          try have c12b2 : (9223372036854775807 < a0.size + a1.size) = False := eq_false (Nat.not_lt.2 c12)
          try have c12b3 : (9223372036854775807 < a0.size + a1.size) = False := eq_false (by (try simp only [eq_iff_iff, iff_true] at *); (try simp only [ByteArray.size_append, ByteArray.size_extract] at *); (try simp only [ByteArray.size, List.size_toArray, List.length_cons, List.length_nil] at *); omega)
          replace H := Option.bind_eq_some_iff.mp H
          obtain ⟨t166, A130, H⟩ := H
          replace H : (if (a0 ++ a1).size + t166.size ≤ 9223372036854775807 then ((spec_tmFresh.f kj3 ((a0 ++ a1) ++ t166)).bind fun t167 => ((spec_cdText.f t167).bind fun t168 => (if a0.size + 1 ≤ 9223372036854775807 then (if (a0 ++ (⟨#[63]⟩ : ByteArray)).size + t168.size ≤ 9223372036854775807 then (if ((a0 ++ (⟨#[63]⟩ : ByteArray)) ++ t168).size + 2 ≤ 9223372036854775807 then (if (((a0 ++ (⟨#[63]⟩ : ByteArray)) ++ t168) ++ (⟨#[46, 40]⟩ : ByteArray)).size + a0.size ≤ 9223372036854775807 then (if ((((a0 ++ (⟨#[63]⟩ : ByteArray)) ++ t168) ++ (⟨#[46, 40]⟩ : ByteArray)) ++ a0).size + 1 ≤ 9223372036854775807 then (if (((((a0 ++ (⟨#[63]⟩ : ByteArray)) ++ t168) ++ (⟨#[46, 40]⟩ : ByteArray)) ++ a0) ++ (⟨#[33]⟩ : ByteArray)).size + a1.size ≤ 9223372036854775807 then (if ((((((a0 ++ (⟨#[63]⟩ : ByteArray)) ++ t168) ++ (⟨#[46, 40]⟩ : ByteArray)) ++ a0) ++ (⟨#[33]⟩ : ByteArray)) ++ a1).size + 3 ≤ 9223372036854775807 then (if (((((((a0 ++ (⟨#[63]⟩ : ByteArray)) ++ t168) ++ (⟨#[46, 40]⟩ : ByteArray)) ++ a0) ++ (⟨#[33]⟩ : ByteArray)) ++ a1) ++ (⟨#[46, 48, 38]⟩ : ByteArray)).size + a2.size ≤ 9223372036854775807 then (if ((((((((a0 ++ (⟨#[63]⟩ : ByteArray)) ++ t168) ++ (⟨#[46, 40]⟩ : ByteArray)) ++ a0) ++ (⟨#[33]⟩ : ByteArray)) ++ a1) ++ (⟨#[46, 48, 38]⟩ : ByteArray)) ++ a2).size + 1 ≤ 9223372036854775807 then ((spec_tmIf.f kj3 (((((((((a0 ++ (⟨#[63]⟩ : ByteArray)) ++ t168) ++ (⟨#[46, 40]⟩ : ByteArray)) ++ a0) ++ (⟨#[33]⟩ : ByteArray)) ++ a1) ++ (⟨#[46, 48, 38]⟩ : ByteArray)) ++ a2) ++ (⟨#[41]⟩ : ByteArray))).bind fun bt169 => (some (bt169.1, bt169.2))) else (none)) else (none)) else (none)) else (none)) else (none)) else (none)) else (none)) else (none)) else (none)))) else (none)) = some (r1, r2) := H
          have A13 := Aside0.mk A130
          clear A130
          by_cases c14 : (a0 ++ a1).size + t166.size ≤ 9223372036854775807
          · rw [if_pos c14] at H
            have c14b0 := eq_true c14
            have c14b1 : decide ((a0 ++ a1).size + t166.size ≤ 9223372036854775807) = true := decide_eq_true c14
            try have c14b2 : (9223372036854775807 < (a0 ++ a1).size + t166.size) = False := eq_false (Nat.not_lt.2 c14)
            try have c14b3 : (9223372036854775807 < a0.size + a1.size + t166.size) = False := eq_false (by (try simp only [eq_iff_iff, iff_true] at *); (try simp only [ByteArray.size_append, ByteArray.size_extract] at *); (try simp only [ByteArray.size, List.size_toArray, List.length_cons, List.length_nil] at *); omega)
            replace H := Option.bind_eq_some_iff.mp H
            obtain ⟨t167, A150, H⟩ := H
            replace H : ((spec_cdText.f t167).bind fun t168 => (if a0.size + 1 ≤ 9223372036854775807 then (if (a0 ++ (⟨#[63]⟩ : ByteArray)).size + t168.size ≤ 9223372036854775807 then (if ((a0 ++ (⟨#[63]⟩ : ByteArray)) ++ t168).size + 2 ≤ 9223372036854775807 then (if (((a0 ++ (⟨#[63]⟩ : ByteArray)) ++ t168) ++ (⟨#[46, 40]⟩ : ByteArray)).size + a0.size ≤ 9223372036854775807 then (if ((((a0 ++ (⟨#[63]⟩ : ByteArray)) ++ t168) ++ (⟨#[46, 40]⟩ : ByteArray)) ++ a0).size + 1 ≤ 9223372036854775807 then (if (((((a0 ++ (⟨#[63]⟩ : ByteArray)) ++ t168) ++ (⟨#[46, 40]⟩ : ByteArray)) ++ a0) ++ (⟨#[33]⟩ : ByteArray)).size + a1.size ≤ 9223372036854775807 then (if ((((((a0 ++ (⟨#[63]⟩ : ByteArray)) ++ t168) ++ (⟨#[46, 40]⟩ : ByteArray)) ++ a0) ++ (⟨#[33]⟩ : ByteArray)) ++ a1).size + 3 ≤ 9223372036854775807 then (if (((((((a0 ++ (⟨#[63]⟩ : ByteArray)) ++ t168) ++ (⟨#[46, 40]⟩ : ByteArray)) ++ a0) ++ (⟨#[33]⟩ : ByteArray)) ++ a1) ++ (⟨#[46, 48, 38]⟩ : ByteArray)).size + a2.size ≤ 9223372036854775807 then (if ((((((((a0 ++ (⟨#[63]⟩ : ByteArray)) ++ t168) ++ (⟨#[46, 40]⟩ : ByteArray)) ++ a0) ++ (⟨#[33]⟩ : ByteArray)) ++ a1) ++ (⟨#[46, 48, 38]⟩ : ByteArray)) ++ a2).size + 1 ≤ 9223372036854775807 then ((spec_tmIf.f kj3 (((((((((a0 ++ (⟨#[63]⟩ : ByteArray)) ++ t168) ++ (⟨#[46, 40]⟩ : ByteArray)) ++ a0) ++ (⟨#[33]⟩ : ByteArray)) ++ a1) ++ (⟨#[46, 48, 38]⟩ : ByteArray)) ++ a2) ++ (⟨#[41]⟩ : ByteArray))).bind fun bt169 => (some (bt169.1, bt169.2))) else (none)) else (none)) else (none)) else (none)) else (none)) else (none)) else (none)) else (none)) else (none))) = some (r1, r2) := H
            have A15 := Aside0.mk A150
            clear A150
            replace H := Option.bind_eq_some_iff.mp H
            obtain ⟨t168, A160, H⟩ := H
            replace H : (if a0.size + 1 ≤ 9223372036854775807 then (if (a0 ++ (⟨#[63]⟩ : ByteArray)).size + t168.size ≤ 9223372036854775807 then (if ((a0 ++ (⟨#[63]⟩ : ByteArray)) ++ t168).size + 2 ≤ 9223372036854775807 then (if (((a0 ++ (⟨#[63]⟩ : ByteArray)) ++ t168) ++ (⟨#[46, 40]⟩ : ByteArray)).size + a0.size ≤ 9223372036854775807 then (if ((((a0 ++ (⟨#[63]⟩ : ByteArray)) ++ t168) ++ (⟨#[46, 40]⟩ : ByteArray)) ++ a0).size + 1 ≤ 9223372036854775807 then (if (((((a0 ++ (⟨#[63]⟩ : ByteArray)) ++ t168) ++ (⟨#[46, 40]⟩ : ByteArray)) ++ a0) ++ (⟨#[33]⟩ : ByteArray)).size + a1.size ≤ 9223372036854775807 then (if ((((((a0 ++ (⟨#[63]⟩ : ByteArray)) ++ t168) ++ (⟨#[46, 40]⟩ : ByteArray)) ++ a0) ++ (⟨#[33]⟩ : ByteArray)) ++ a1).size + 3 ≤ 9223372036854775807 then (if (((((((a0 ++ (⟨#[63]⟩ : ByteArray)) ++ t168) ++ (⟨#[46, 40]⟩ : ByteArray)) ++ a0) ++ (⟨#[33]⟩ : ByteArray)) ++ a1) ++ (⟨#[46, 48, 38]⟩ : ByteArray)).size + a2.size ≤ 9223372036854775807 then (if ((((((((a0 ++ (⟨#[63]⟩ : ByteArray)) ++ t168) ++ (⟨#[46, 40]⟩ : ByteArray)) ++ a0) ++ (⟨#[33]⟩ : ByteArray)) ++ a1) ++ (⟨#[46, 48, 38]⟩ : ByteArray)) ++ a2).size + 1 ≤ 9223372036854775807 then ((spec_tmIf.f kj3 (((((((((a0 ++ (⟨#[63]⟩ : ByteArray)) ++ t168) ++ (⟨#[46, 40]⟩ : ByteArray)) ++ a0) ++ (⟨#[33]⟩ : ByteArray)) ++ a1) ++ (⟨#[46, 48, 38]⟩ : ByteArray)) ++ a2) ++ (⟨#[41]⟩ : ByteArray))).bind fun bt169 => (some (bt169.1, bt169.2))) else (none)) else (none)) else (none)) else (none)) else (none)) else (none)) else (none)) else (none)) else (none)) = some (r1, r2) := H
            have A16 := Aside0.mk A160
            clear A160
            by_cases c17 : a0.size + 1 ≤ 9223372036854775807
            · rw [if_pos c17] at H
              have c17b0 := eq_true c17
              have c17b1 : decide (a0.size + 1 ≤ 9223372036854775807) = true := decide_eq_true c17
              try have c17b2 : (9223372036854775807 < a0.size + 1) = False := eq_false (Nat.not_lt.2 c17)
              try have c17b3 : (9223372036854775807 < a0.size + 1) = False := eq_false (by (try simp only [eq_iff_iff, iff_true] at *); (try simp only [ByteArray.size_append, ByteArray.size_extract] at *); (try simp only [ByteArray.size, List.size_toArray, List.length_cons, List.length_nil] at *); omega)
              by_cases c18 : (a0 ++ (⟨#[63]⟩ : ByteArray)).size + t168.size ≤ 9223372036854775807
              · rw [if_pos c18] at H
                have c18b0 := eq_true c18
                have c18b1 : decide ((a0 ++ (⟨#[63]⟩ : ByteArray)).size + t168.size ≤ 9223372036854775807) = true := decide_eq_true c18
                try have c18b2 : (9223372036854775807 < (a0 ++ (⟨#[63]⟩ : ByteArray)).size + t168.size) = False := eq_false (Nat.not_lt.2 c18)
                try have c18b3 : (9223372036854775807 < a0.size + 1 + t168.size) = False := eq_false (by (try simp only [eq_iff_iff, iff_true] at *); (try simp only [ByteArray.size_append, ByteArray.size_extract] at *); (try simp only [ByteArray.size, List.size_toArray, List.length_cons, List.length_nil] at *); omega)
                by_cases c19 : ((a0 ++ (⟨#[63]⟩ : ByteArray)) ++ t168).size + 2 ≤ 9223372036854775807
                · rw [if_pos c19] at H
                  have c19b0 := eq_true c19
                  have c19b1 : decide (((a0 ++ (⟨#[63]⟩ : ByteArray)) ++ t168).size + 2 ≤ 9223372036854775807) = true := decide_eq_true c19
                  try have c19b2 : (9223372036854775807 < ((a0 ++ (⟨#[63]⟩ : ByteArray)) ++ t168).size + 2) = False := eq_false (Nat.not_lt.2 c19)
                  try have c19b3 : (9223372036854775807 < a0.size + 1 + t168.size + 2) = False := eq_false (by (try simp only [eq_iff_iff, iff_true] at *); (try simp only [ByteArray.size_append, ByteArray.size_extract] at *); (try simp only [ByteArray.size, List.size_toArray, List.length_cons, List.length_nil] at *); omega)
                  by_cases c20 : (((a0 ++ (⟨#[63]⟩ : ByteArray)) ++ t168) ++ (⟨#[46, 40]⟩ : ByteArray)).size + a0.size ≤ 9223372036854775807
                  · rw [if_pos c20] at H
                    have c20b0 := eq_true c20
                    have c20b1 : decide ((((a0 ++ (⟨#[63]⟩ : ByteArray)) ++ t168) ++ (⟨#[46, 40]⟩ : ByteArray)).size + a0.size ≤ 9223372036854775807) = true := decide_eq_true c20
                    try have c20b2 : (9223372036854775807 < (((a0 ++ (⟨#[63]⟩ : ByteArray)) ++ t168) ++ (⟨#[46, 40]⟩ : ByteArray)).size + a0.size) = False := eq_false (Nat.not_lt.2 c20)
                    try have c20b3 : (9223372036854775807 < a0.size + 1 + t168.size + 2 + a0.size) = False := eq_false (by (try simp only [eq_iff_iff, iff_true] at *); (try simp only [ByteArray.size_append, ByteArray.size_extract] at *); (try simp only [ByteArray.size, List.size_toArray, List.length_cons, List.length_nil] at *); omega)
                    by_cases c21 : ((((a0 ++ (⟨#[63]⟩ : ByteArray)) ++ t168) ++ (⟨#[46, 40]⟩ : ByteArray)) ++ a0).size + 1 ≤ 9223372036854775807
                    · rw [if_pos c21] at H
                      have c21b0 := eq_true c21
                      have c21b1 : decide (((((a0 ++ (⟨#[63]⟩ : ByteArray)) ++ t168) ++ (⟨#[46, 40]⟩ : ByteArray)) ++ a0).size + 1 ≤ 9223372036854775807) = true := decide_eq_true c21
                      try have c21b2 : (9223372036854775807 < ((((a0 ++ (⟨#[63]⟩ : ByteArray)) ++ t168) ++ (⟨#[46, 40]⟩ : ByteArray)) ++ a0).size + 1) = False := eq_false (Nat.not_lt.2 c21)
                      try have c21b3 : (9223372036854775807 < a0.size + 1 + t168.size + 2 + a0.size + 1) = False := eq_false (by (try simp only [eq_iff_iff, iff_true] at *); (try simp only [ByteArray.size_append, ByteArray.size_extract] at *); (try simp only [ByteArray.size, List.size_toArray, List.length_cons, List.length_nil] at *); omega)
                      by_cases c22 : (((((a0 ++ (⟨#[63]⟩ : ByteArray)) ++ t168) ++ (⟨#[46, 40]⟩ : ByteArray)) ++ a0) ++ (⟨#[33]⟩ : ByteArray)).size + a1.size ≤ 9223372036854775807
                      · rw [if_pos c22] at H
                        have c22b0 := eq_true c22
                        have c22b1 : decide ((((((a0 ++ (⟨#[63]⟩ : ByteArray)) ++ t168) ++ (⟨#[46, 40]⟩ : ByteArray)) ++ a0) ++ (⟨#[33]⟩ : ByteArray)).size + a1.size ≤ 9223372036854775807) = true := decide_eq_true c22
                        try have c22b2 : (9223372036854775807 < (((((a0 ++ (⟨#[63]⟩ : ByteArray)) ++ t168) ++ (⟨#[46, 40]⟩ : ByteArray)) ++ a0) ++ (⟨#[33]⟩ : ByteArray)).size + a1.size) = False := eq_false (Nat.not_lt.2 c22)
                        try have c22b3 : (9223372036854775807 < a0.size + 1 + t168.size + 2 + a0.size + 1 + a1.size) = False := eq_false (by (try simp only [eq_iff_iff, iff_true] at *); (try simp only [ByteArray.size_append, ByteArray.size_extract] at *); (try simp only [ByteArray.size, List.size_toArray, List.length_cons, List.length_nil] at *); omega)
                        by_cases c23 : ((((((a0 ++ (⟨#[63]⟩ : ByteArray)) ++ t168) ++ (⟨#[46, 40]⟩ : ByteArray)) ++ a0) ++ (⟨#[33]⟩ : ByteArray)) ++ a1).size + 3 ≤ 9223372036854775807
                        · rw [if_pos c23] at H
                          have c23b0 := eq_true c23
                          have c23b1 : decide (((((((a0 ++ (⟨#[63]⟩ : ByteArray)) ++ t168) ++ (⟨#[46, 40]⟩ : ByteArray)) ++ a0) ++ (⟨#[33]⟩ : ByteArray)) ++ a1).size + 3 ≤ 9223372036854775807) = true := decide_eq_true c23
                          try have c23b2 : (9223372036854775807 < ((((((a0 ++ (⟨#[63]⟩ : ByteArray)) ++ t168) ++ (⟨#[46, 40]⟩ : ByteArray)) ++ a0) ++ (⟨#[33]⟩ : ByteArray)) ++ a1).size + 3) = False := eq_false (Nat.not_lt.2 c23)
                          try have c23b3 : (9223372036854775807 < a0.size + 1 + t168.size + 2 + a0.size + 1 + a1.size + 3) = False := eq_false (by (try simp only [eq_iff_iff, iff_true] at *); (try simp only [ByteArray.size_append, ByteArray.size_extract] at *); (try simp only [ByteArray.size, List.size_toArray, List.length_cons, List.length_nil] at *); omega)
                          by_cases c24 : (((((((a0 ++ (⟨#[63]⟩ : ByteArray)) ++ t168) ++ (⟨#[46, 40]⟩ : ByteArray)) ++ a0) ++ (⟨#[33]⟩ : ByteArray)) ++ a1) ++ (⟨#[46, 48, 38]⟩ : ByteArray)).size + a2.size ≤ 9223372036854775807
                          · rw [if_pos c24] at H
                            have c24b0 := eq_true c24
                            have c24b1 : decide ((((((((a0 ++ (⟨#[63]⟩ : ByteArray)) ++ t168) ++ (⟨#[46, 40]⟩ : ByteArray)) ++ a0) ++ (⟨#[33]⟩ : ByteArray)) ++ a1) ++ (⟨#[46, 48, 38]⟩ : ByteArray)).size + a2.size ≤ 9223372036854775807) = true := decide_eq_true c24
                            try have c24b2 : (9223372036854775807 < (((((((a0 ++ (⟨#[63]⟩ : ByteArray)) ++ t168) ++ (⟨#[46, 40]⟩ : ByteArray)) ++ a0) ++ (⟨#[33]⟩ : ByteArray)) ++ a1) ++ (⟨#[46, 48, 38]⟩ : ByteArray)).size + a2.size) = False := eq_false (Nat.not_lt.2 c24)
                            try have c24b3 : (9223372036854775807 < a0.size + 1 + t168.size + 2 + a0.size + 1 + a1.size + 3 + a2.size) = False := eq_false (by (try simp only [eq_iff_iff, iff_true] at *); (try simp only [ByteArray.size_append, ByteArray.size_extract] at *); (try simp only [ByteArray.size, List.size_toArray, List.length_cons, List.length_nil] at *); omega)
                            by_cases c25 : ((((((((a0 ++ (⟨#[63]⟩ : ByteArray)) ++ t168) ++ (⟨#[46, 40]⟩ : ByteArray)) ++ a0) ++ (⟨#[33]⟩ : ByteArray)) ++ a1) ++ (⟨#[46, 48, 38]⟩ : ByteArray)) ++ a2).size + 1 ≤ 9223372036854775807
                            · rw [if_pos c25] at H
                              have c25b0 := eq_true c25
                              have c25b1 : decide (((((((((a0 ++ (⟨#[63]⟩ : ByteArray)) ++ t168) ++ (⟨#[46, 40]⟩ : ByteArray)) ++ a0) ++ (⟨#[33]⟩ : ByteArray)) ++ a1) ++ (⟨#[46, 48, 38]⟩ : ByteArray)) ++ a2).size + 1 ≤ 9223372036854775807) = true := decide_eq_true c25
                              try have c25b2 : (9223372036854775807 < ((((((((a0 ++ (⟨#[63]⟩ : ByteArray)) ++ t168) ++ (⟨#[46, 40]⟩ : ByteArray)) ++ a0) ++ (⟨#[33]⟩ : ByteArray)) ++ a1) ++ (⟨#[46, 48, 38]⟩ : ByteArray)) ++ a2).size + 1) = False := eq_false (Nat.not_lt.2 c25)
                              try have c25b3 : (9223372036854775807 < a0.size + 1 + t168.size + 2 + a0.size + 1 + a1.size + 3 + a2.size + 1) = False := eq_false (by (try simp only [eq_iff_iff, iff_true] at *); (try simp only [ByteArray.size_append, ByteArray.size_extract] at *); (try simp only [ByteArray.size, List.size_toArray, List.length_cons, List.length_nil] at *); omega)
                              replace H := Option.bind_eq_some_iff.mp H
                              obtain ⟨⟨t169, t170⟩, A260, H⟩ := H
                              replace H : (some (t169, t170)) = some (r1, r2) := H
                              have A26 := Aside0.mk A260
                              clear A260
                              simp only [Option.some.injEq, Prod.mk.injEq] at H
                              obtain ⟨rfl, rfl⟩ := H
                              go_wp2_with (first | ((with_reducible refine gate_callee (f := 46) rfl ?_); refine goesL_ (some 26) rfl rfl Try.func46 (by kernel_rfl) rfl #[.string a2] rfl (by (try simp only [List.map_toArray, List.map_cons, List.map_nil]); first | done | rfl | (simp only [List.length_drop, List.length_take]; rfl)) ?_; (with_reducible refine (spec_tmFree.calls kj3 a2 t166 _ A13.out).mono ?_); rintro e w27 ⟨rfl, hb⟩; refine ⟨_, rfl, ?_⟩; have n0_ := Aside0.mk (below_step (by repeat (first | (with_reducible first | exact HB.out | apply below_alloc | apply pw_below_drewN | apply below_drew1) | exact HB.out)) hb); clear HB; have HB := n0_; clear n0_; (try clear hb); (try clear hb2); (try clear hk); (try clear hi)) | ((with_reducible refine gate_callee (f := 64) rfl ?_); refine goesL_ (some 28) rfl rfl Try.func64 (by kernel_rfl) rfl #[.string ((a0 ++ a1) ++ t166)] rfl (by (try simp only [List.map_toArray, List.map_cons, List.map_nil]); first | done | rfl | (simp only [List.length_drop, List.length_take]; rfl)) ?_; (with_reducible refine (spec_tmFresh.calls kj3 ((a0 ++ a1) ++ t166) t167 _ A15.out).mono ?_); rintro e w' ⟨rfl, ⟨nd, rfl⟩⟩; refine ⟨_, rfl, ?_⟩) | ((with_reducible refine gate_callee (f := 63) rfl ?_); refine goesL_ (some 29) rfl rfl Try.func63 (by kernel_rfl) rfl #[.int .u8 t167] rfl (by (try simp only [List.map_toArray, List.map_cons, List.map_nil]); first | done | rfl | (simp only [List.length_drop, List.length_take]; rfl)) ?_; (with_reducible refine (spec_cdText.calls t167 t168 _ A16.out).mono ?_); rintro e w28 ⟨rfl, hb⟩; refine ⟨_, rfl, ?_⟩; have n0_ := Aside0.mk (below_step (by repeat (first | (with_reducible first | exact HB.out | apply below_alloc | apply pw_below_drewN | apply below_drew1) | exact HB.out)) hb); clear HB; have HB := n0_; clear n0_; (try clear hb); (try clear hb2); (try clear hk); (try clear hi)) | ((with_reducible refine gate_callee (f := 65) rfl ?_); refine goesL_ (some 44) rfl rfl Try.func65 (by kernel_rfl) rfl #[.string (((((((((a0 ++ (⟨#[63]⟩ : ByteArray)) ++ t168) ++ (⟨#[46, 40]⟩ : ByteArray)) ++ a0) ++ (⟨#[33]⟩ : ByteArray)) ++ a1) ++ (⟨#[46, 48, 38]⟩ : ByteArray)) ++ a2) ++ (⟨#[41]⟩ : ByteArray))] rfl (by (try simp only [List.map_toArray, List.map_cons, List.map_nil]); first | done | rfl | (simp only [List.length_drop, List.length_take]; rfl)) ?_; (with_reducible refine (spec_tmIf.calls kj3 (((((((((a0 ++ (⟨#[63]⟩ : ByteArray)) ++ t168) ++ (⟨#[46, 40]⟩ : ByteArray)) ++ a0) ++ (⟨#[33]⟩ : ByteArray)) ++ a1) ++ (⟨#[46, 48, 38]⟩ : ByteArray)) ++ a2) ++ (⟨#[41]⟩ : ByteArray)) t169 t170 _ A26.out).mono ?_); rintro e w29 ⟨rfl, hb⟩; refine ⟨_, rfl, ?_⟩; have n0_ := Aside0.mk (below_step (by repeat (first | (with_reducible first | exact HB.out | apply below_alloc | apply pw_below_drewN | apply below_drew1) | exact HB.out)) hb); clear HB; have HB := n0_; clear n0_; (try clear hb); (try clear hb2); (try clear hk); (try clear hi)))
                              go_ret2
                              exact ⟨by first | rfl | (simp [errW_none, errW_some] <;> rfl) | (simp [*, errW_none, errW_some] <;> rfl), by repeat (first | (with_reducible first | exact HB.out | apply below_alloc | apply pw_below_drewN | apply below_drew1) | exact HB.out)⟩
                            · rw [if_neg c25] at H
                              exact absurd H (by simp)
                          · rw [if_neg c24] at H
                            exact absurd H (by simp)
                        · rw [if_neg c23] at H
                          exact absurd H (by simp)
                      · rw [if_neg c22] at H
                        exact absurd H (by simp)
                    · rw [if_neg c21] at H
                      exact absurd H (by simp)
                  · rw [if_neg c20] at H
                    exact absurd H (by simp)
                · rw [if_neg c19] at H
                  exact absurd H (by simp)
              · rw [if_neg c18] at H
                exact absurd H (by simp)
            · rw [if_neg c17] at H
              exact absurd H (by simp)
          · rw [if_neg c14] at H
            exact absurd H (by simp)
        · rw [if_neg c12] at H
          exact absurd H (by simp)

end Go.Proofs.Ytfcadppidgkoaaa.PWriteCell
