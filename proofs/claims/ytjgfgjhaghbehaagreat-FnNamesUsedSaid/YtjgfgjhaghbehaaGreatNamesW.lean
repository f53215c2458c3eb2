-- Several texts of this claim in one.
import Derived.Test.YtjgfgjhaghbehaaGreatNamesL
import Derived.Test.YtjgfgjhaghbehaaGreatZIsLinear
import Derived.Test.YtjgfgjhaghbehaaGreatDraw
import Derived.Lib.OthersKept
import Derived.Deep.Cut
import Derived.Deep.CutRange
/- What the law's two halves answer, in plain words on sorts and uses. No program in sight. -/
namespace Go.Proofs.YtjgfgjhaghbehaaGreat.Dr
open Go.RowKit Go.Proofs.YtjgfgjhaghbehaaGreatW.PrintWords Go.Proofs.YtjgfgjhaghbehaaGreatW.PrintMore Go.Proofs.YtjgfgjhaghbehaaGreat.Rf Go.Proofs.YtjgfgjhaghbehaaGreat.PsoPlace
set_option linter.unusedVariables false
set_option linter.unusedSimpArgs false

theorem first_half (p a : List UInt8) :
    ((levV p a).2 = false ∧ (levV p a).1 = 0 ∧ (PFnExactSortText.val p a).1 = [] ∧ (PFnExactSortText.val p a).2 = false) ∨
    ∃ k : Nat, k ≤ 1000 ∧ (levV p a).2 = true ∧ (levV p a).1 = (k : Int) ∧ (PFnExactSortText.val p a).1.length = 2 * k + 1 ∧ (PFnExactSortText.val p a).2 = true ∧ (PFnExactCarriedBy.val p a).2 = true ∧ ∀ c, c ∈ (PFnExactCarriedBy.val p a).1 → c.toNat < 128 ∧ levV p [c] = ((k : Int) - 1, true) ∧ 1 ≤ k := by
  rcases PFnExactSortText.lev_form p a with ⟨h1, h2⟩ | ⟨k, hk, h1, h2⟩
  · left; rw [h1, h2]; exact ⟨rfl, rfl, rfl, rfl⟩
  · right
    refine ⟨k, hk, by rw [h1], by rw [h1], by rw [h2]; exact PFnExactSortText.txt_len k, by rw [h2], ?_, ?_⟩
    · have hw : withB p [a] = true := by
        unfold levV at h1
        split at h1
        · rename_i h; exact h.1
        · injection h1 with _ h; cases h
      unfold PFnExactCarriedBy.val
      rw [if_pos hw]
    · intro c hm
      obtain ⟨e1, e2⟩ := carried_level h1 hm
      refine ⟨?_, e1, by omega⟩
      have hw : withB p [[c]] = true := by
        unfold levV at e1
        split at e1
        · rename_i h; exact h.1
        · injection e1 with _ h; cases h
      obtain ⟨_, d, e, hd⟩ := PFnExactUsesOf.with_one hw
      injection e with e _
      subst e
      unfold isLet vl at hd
      simp only [Bool.and_eq_true, decide_eq_true_eq] at hd
      omega
theorem carried_few (p a : List UInt8) : (PFnExactCarriedBy.val p a).1.length ≤ 26 := by
  unfold PFnExactCarriedBy.val
  split
  · exact Nat.le_trans (List.length_filter_le _ _) (sort_len _)
  · exact Nat.zero_le _
theorem gin_dirs (u : Us) : gin (PFnExactUsesOf.dirs u) 33 = decide (0 < u.s) ∧ gin (PFnExactUsesOf.dirs u) 63 = decide (0 < u.r) := by
  unfold PFnExactUsesOf.dirs gin
  by_cases h1 : 0 < u.s <;> by_cases h2 : 0 < u.r <;> simp [h1, h2]
theorem lin_one (u : Us) (h : PFnExactIsLinear.linU u = true) : u.s = 1 ∧ u.r = 1 ∧ u.h = 0 := by
  unfold PFnExactIsLinear.linU at h
  simp only [Bool.and_eq_true, decide_eq_true_eq] at h
  exact ⟨h.1, h.2.1, h.2.2.1⟩
theorem second_half (q b : List UInt8) : ((levV q b).2 = false) ∨ ((levV q b).2 = true ∧ 0 ≤ (levV q b).1 ∧ (levV q b).1 ≤ 1000 ∧ (0 < (usV q b).s + (usV q b).r → 0 < (levV q b).1)) := by
  rcases PFnExactSortText.lev_form q b with ⟨h1, h2⟩ | ⟨k, hk, h1, h2⟩
  · left; rw [h1]
  · right
    rw [h1]
    exact ⟨rfl, by simp, by simp; omega, fun h => used_level h1 h⟩

end Go.Proofs.YtjgfgjhaghbehaaGreat.Dr
/- The law FnNamesUsed, walked. -/
namespace Go.Proofs.YtjgfgjhaghbehaaGreat.Dr
open Go.RowKit Go.Proofs.YtjgfgjhaghbehaaGreatW.PrintWords Go.Proofs.YtjgfgjhaghbehaaGreatW.PrintMore Go.Proofs.YtjgfgjhaghbehaaGreat.Rf Go.Proofs.YtjgfgjhaghbehaaGreat.PsoPlace
set_option linter.unusedVariables false
set_option linter.unusedSimpArgs false

def itPos (w : World) (k : Nat) : Nat :=
  match w.heap[k]? with
  | some (.stringIter _ p) => p
  | _ => 0
theorem one_at (l : List UInt8) (i : Nat) (h : i < l.length) : (B l).extract i (i + 1) = B [l[i]] := by
  rw [B_extract, List.take_succ_eq_append_getElem h, List.drop_append]
  have e : i - min i l.length = 0 := by omega
  simp [e]
set_option maxHeartbeats 1000000 in
theorem big_calls (w : World) (A1 A2 : Option Addr) (n1 n2 c1 c2 : Nat) (h1 : n1 ≤ 140737488351232) (h2 : n2 ≤ 140737488351232) :
    Calls Tryz.prog 4 #[.slice A1 n1 c1, .slice A2 n2 c2] w fun e w' => e = .returned (.bool (decide (1048576 < n1 + n2))) ∧ w' = w := by
  by_cases hb : 1048576 < n1 + n2
  · by_cases hb1 : (n1 : Int) > 1048576
    · go_enter Tryz.func4, Tryz.ntmps4
      go_wp2_with fail
      go_ret
      exact ⟨by first | rfl | (rw [decide_eq_true hb]; rfl), rfl⟩
    · have hb2 : (n2 : Int) > 1048576 - (n1 : Int) := by omega
      go_enter Tryz.func4, Tryz.ntmps4
      go_wp2_with fail
      go_ret
      exact ⟨rfl, rfl⟩
  · have hb1 : ¬ (n1 : Int) > 1048576 := by omega
    have hb2 : ¬ (n2 : Int) > 1048576 - (n1 : Int) := by omega
    go_enter Tryz.func4, Tryz.ntmps4
    go_wp2_with fail
    go_ret
    exact ⟨rfl, rfl⟩

set_option maxHeartbeats 16000000 in
set_option maxRecDepth 100000 in
theorem law_walk (w : World) (A1 A2 : Option Addr) (l1 l2 : List Int) (c1 c2 : Nat)
    (C1 : Kd.C (Kd.int .u8) w A1 l1.length l1) (b1 : ∀ x, x ∈ l1 → 0 ≤ x ∧ x ≤ 255) (z1 : l1.length ≤ 140737488351232)
    (C2 : Kd.C (Kd.int .u8) w A2 l2.length l2) (b2 : ∀ x, x ∈ l2 → 0 ≤ x ∧ x ≤ 255) (z2 : l2.length ≤ 140737488351232) :
    Calls Tryz.prog 3 #[.slice A1 l1.length c1, .slice A2 l2.length c2] w fun e w' => e = .returned (.bool true) ∧ Below w.heap.size w w' := by
  have hbg := big_calls w A1 A2 l1.length l2.length c1 c2 z1 z2
  by_cases hb : 1048576 < l1.length + l2.length
  · rw [decide_eq_true hb] at hbg
    clear C1 C2 b1 b2
    go_enter Tryz.func3, Tryz.ntmps3
    go_wp2_with fail
    refine hbg.mono ?_
    rintro e w1 ⟨rfl, rfl⟩
    go_wp2_with fail
    go_ret
    exact ⟨rfl, Below.refl _ _⟩
  rw [decide_eq_false hb] at hbg
  have D1 := Lib.hid (drawLevel_calls (c := c1) C1 b1 (by omega))
  have D2 : Hid (∀ W, Below w.heap.size w W → Calls Tryz.prog 12 #[.slice A2 l2.length c2] W fun e w' => ∃ p a : List UInt8, p.length ≤ 400 ∧ a.length ≤ 1 ∧ e = .returned (.tuple #[.string (B p), .string (B a)]) ∧ Below W.heap.size W w') :=
    fun W hW => drawUses_calls (c := c2) (Kd.C_below C2 hW) b2 (by omega)
  clear C1 C2 b1 b2 z1 z2 hb
  go_enter Tryz.func3, Tryz.ntmps3
  go_wp2_with fail
  refine hbg.mono ?_
  rintro e w1 ⟨rfl, rfl⟩
  clear hbg
  go_wp2_with fail
  refine D1.out.mono ?_
  rintro e w2 ⟨p, a, hp, ha, rfl, hb2⟩
  have HB := Lib.hid hb2
  clear hb2 D1
  have k1 := fun W => PFnExactLevelOf.LevelOf_calls p a W (by omega) (by omega)
  have k2 := fun W => PFnExactLevelOf.LevelOf_spec p a W
  have k3 := fun W => PFnExactSortText.txt_prog p a W (by omega) (by omega)
  have k4 := fun W => PFnExactSortText.txt_spec p a W
  have k5 := fun W => PFnExactCarriedBy.car_prog p a W (by omega) (by omega)
  have k6 := fun W => PFnExactCarriedBy.car_spec p a W
  have HF := first_half p a
  have hc26 := carried_few p a
  have k7 := fun c W => PFnExactLevelOf.LevelOf_calls p [c] W (by omega) (by simp)
  generalize (levV p a).1 = lv at k1 k2 HF
  generalize (levV p a).2 = ok at k1 k2 HF
  generalize (PFnExactSortText.val p a).1 = tx at k3 k4 HF
  generalize (PFnExactSortText.val p a).2 = one at k3 k4 HF
  generalize (PFnExactCarriedBy.val p a).1 = ca at k5 k6 HF hc26
  generalize (PFnExactCarriedBy.val p a).2 = th at k5 k6 HF
  replace HF := Lib.hid HF
  replace k1 := Lib.hid k1
  replace k2 := Lib.hid k2
  replace k3 := Lib.hid k3
  replace k4 := Lib.hid k4
  replace k5 := Lib.hid k5
  replace k6 := Lib.hid k6
  replace k7 := Lib.hid k7
  replace hc26 := Lib.hid hc26
  clear hp ha
  go_wp2_with fail
  refine (k1.out _).mono ?_
  rintro e w3 ⟨rfl, hb⟩
  replace HB := Lib.hid (below_then HB.out HB.out.size hb)
  clear hb k1
  go_wp2_with fail
  refine (k2.out _).mono ?_
  rintro e w4 ⟨rfl, hb⟩
  replace HB := Lib.hid (below_then HB.out HB.out.size hb)
  clear hb k2
  go_wp2_with fail
  refine (k3.out _).mono ?_
  rintro e w5 ⟨rfl, hb⟩
  replace HB := Lib.hid (below_then HB.out HB.out.size hb)
  clear hb k3
  go_wp2_with fail
  refine (k4.out _).mono ?_
  rintro e w6 ⟨rfl, hb⟩
  replace HB := Lib.hid (below_then HB.out HB.out.size hb)
  clear hb k4
  go_wp2_with fail
  refine (k5.out _).mono ?_
  rintro e w7 ⟨rfl, hb⟩
  replace HB := Lib.hid (below_then HB.out HB.out.size hb)
  clear hb k5
  go_wp2_with fail
  refine (k6.out _).mono ?_
  rintro e w8 ⟨rfl, hb⟩
  replace HB := Lib.hid (below_then HB.out HB.out.size hb)
  clear hb k6
  go_upto_region 10 with fail
  go_cut [125] from 86 to 125 (fun v wc => v = .bool false ∧ w8 = wc)
  case first =>
    rcases ok with _ | _
    · obtain rfl : one = false := by
        rcases HF.out with ⟨_, _, _, h⟩ | ⟨_, _, h, _⟩
        · exact h
        · cases h
      go_wp2_with fail
      go_meet
      case rel => exact ⟨rfl, rfl⟩
    · obtain ⟨rfl, rfl⟩ : one = true ∧ th = true := by
        rcases HF.out with ⟨h, _⟩ | ⟨_, _, _, _, _, h1, h2, _⟩
        · cases h
        · exact ⟨h1, h2⟩
      go_wp2_with fail
      go_meet
      case rel => exact ⟨rfl, rfl⟩
  obtain ⟨rfl, rfl⟩ := hcut
  go_upto_if 126 with fail
  go_cut [] from 126 to 163 (fun wc => Below w1.heap.size w1 wc)
  case first =>
    rcases ok with _ | _
    · go_wp2_with fail
      go_meet
      case rel => exact HB.out
    · obtain ⟨k, hk, rfl, htx, hcar⟩ : ∃ k : Nat, k ≤ 1000 ∧ lv = (k : Int) ∧ tx.length = 2 * k + 1 ∧ ∀ c, c ∈ ca → c.toNat < 128 ∧ levV p [c] = ((k : Int) - 1, true) ∧ 1 ≤ k := by
        rcases HF.out with ⟨h, _⟩ | ⟨k, h1, _, h2, h3, _, _, h4⟩
        · cases h
        · exact ⟨k, h1, h2, h3, h4⟩
      replace hcar := Lib.hid hcar
      have hz : (B tx).size = 2 * k + 1 := by rw [B_size, htx]
      have hzc : (B ca).size = ca.length := B_size ca
      have hcl := hc26.out
      clear HF htx
      have step : ∀ (K : World → Prop), True := fun _ => trivial
      have hne : k = 0 → ca = [] := fun e => by
        rcases ca with _ | ⟨c, ca⟩
        · rfl
        · have := (hcar.out c (by simp)).2.2
          omega
      have hbc : (k : Int) = 0 ∧ (B ca).toList = [] ∨ ¬ (k : Int) = 0 := by
        by_cases e : k = 0
        · left
          rw [hne e]
          exact ⟨by omega, B_toList []⟩
        · right; omega
      replace hcl := Lib.hid hcl
      clear hne step hc26
      rcases hbc with ⟨e0, e1⟩ | e0
      · skip
        go_wp2_with fail
        go_loopw [] (fun wr => ∃ pos : Nat, pos ≤ ca.length ∧ Hid (wr.heap[w8.heap.size]? = some (.stringIter (B ca) pos)) ∧ Hid (Below w8.heap.size w8 wr)) (fun wr => ca.length - itPos wr w8.heap.size)
        case atStart => exact ⟨0, Nat.zero_le _, World.iter_heap _ _ _, below_alloc (Below.refl _ _) _⟩
        case round =>
          obtain ⟨pos, hpos, hit, hbl⟩ := hrel
          by_cases hlt : pos < ca.length
          · have hm : ca[pos] ∈ ca := List.getElem_mem hlt
            obtain ⟨hc1, hc2, hc3⟩ := hcar.out _ hm
            omega
          · have hlt2 : ¬ pos < (B ca).size := by rw [hzc]; exact hlt
            have hnx : ∀ ty, (Instr.next (.pointer (some ⟨w8.heap.size, 0, none⟩)) true ty).run Tryz.prog wr = .ok (.tuple #[.bool false]) wr := fun ty => Lib.run_next_end_at wr _ _ pos ty hit.out hlt2
            have HE := Lib.hid (below_then HB.out HB.out.size hbl.out)
            clear hit hbl
            go_wp2_with fail
            go_meet
            case rel => exact HE.out
      · skip
        go_wp2_with fail
        go_loopw [] (fun wr => ∃ pos : Nat, pos ≤ ca.length ∧ Hid (wr.heap[w8.heap.size]? = some (.stringIter (B ca) pos)) ∧ Hid (Below w8.heap.size w8 wr)) (fun wr => ca.length - itPos wr w8.heap.size)
        case atStart => exact ⟨0, Nat.zero_le _, World.iter_heap _ _ _, below_alloc (Below.refl _ _) _⟩
        case round =>
          obtain ⟨pos, hpos, hit, hbl⟩ := hrel
          by_cases hlt : pos < ca.length
          · have hm : ca[pos] ∈ ca := List.getElem_mem hlt
            obtain ⟨hc1, hc2, hc3⟩ := hcar.out _ hm
            have hlt2 : pos < (B ca).size := by rw [hzc]; exact hlt
            have hnx : ∀ ty, (Instr.next (.pointer (some ⟨w8.heap.size, 0, none⟩)) true ty).run Tryz.prog wr = .ok (.tuple #[.bool true, .int .i64 pos, .int .i32 ((B ca)[pos]'hlt2).toNat]) (wr.iterAt w8.heap.size (B ca) (pos + 1)) := fun ty => Lib.run_next_ascii_at wr _ _ pos ty hit.out hlt2 hc1
            have hex : (B ca).extract pos (pos + 1) = B [ca[pos]] := one_at ca pos hlt
            have hw1 : IntKind.i64.wrap ((pos : Int) + 1) = (pos : Int) + 1 := by rw [IntKind.wrap_i64]; have := hcl.out; omega
            have hsl : ∀ W : World, (Instr.slice 9 (.string (B ca)) (some (.int .i64 (pos : Int))) (some (.int .i64 ((pos : Int) + 1))) none).run Tryz.prog W = .ok (.string (B [ca[pos]])) W := fun W => by
              rw [← hex]
              exact run_slice_string W 9 (B ca) .i64 .i64 (pos : Int) ((pos : Int) + 1) Tryz.underlying9 (by omega) (by omega) (by omega)
            have hk7 : ∀ W, Calls Tryz.prog 6 #[.string (B p), .string (B [ca[pos]])] W fun e w' => e = .returned (.tuple #[.int .i64 ((k : Int) - 1), .bool true]) ∧ Below W.heap.size W w' := fun W => by
              refine (k7.out ca[pos] W).mono ?_
              rintro e w' ⟨rfl, hb⟩
              exact ⟨congrArg (fun r : Int × Bool => Ending.returned (.tuple #[.int .i64 r.1, .bool r.2])) hc2, hb⟩
            have HI := Lib.hid (Lib.iterAt_heap wr _ (B ca) pos (pos + 1) hit.out)
            have HBI := Lib.hid (Lib.below_iterAt hbl.out (Nat.le_refl _) (B ca) (pos + 1))
            have hit2 := Lib.hid (show itPos wr w8.heap.size = pos by unfold itPos; rw [hit.out])
            replace hk7 := Lib.hid hk7
            have hcl2 : ca.length ≤ 26 := hcl.out
            clear hex hc1 hc2 hm hit hbl
            go_wp2_with fail
            refine (hk7.out _).mono ?_
            rintro e w9 ⟨rfl, hb9⟩
            have HI2 := Lib.hid ((hb9.block _ (blk_lt HI.out)).trans HI.out)
            have HB9 := Lib.hid (below_then HBI.out HBI.out.size hb9)
            clear hb9 hk7 hnx hsl
            go_wp2_with fail
            go_roundw
            case rel => exact ⟨pos + 1, by omega, HI2, HB9⟩
            case measure =>
              have e2 : itPos w9 w8.heap.size = pos + 1 := by unfold itPos; rw [HI2.out]
              rw [hit2.out, e2]
              omega
          · have hlt2 : ¬ pos < (B ca).size := by rw [hzc]; exact hlt
            have hnx : ∀ ty, (Instr.next (.pointer (some ⟨w8.heap.size, 0, none⟩)) true ty).run Tryz.prog wr = .ok (.tuple #[.bool false]) wr := fun ty => Lib.run_next_end_at wr _ _ pos ty hit.out hlt2
            have HE := Lib.hid (below_then HB.out HB.out.size hbl.out)
            clear hit hbl
            go_wp2_with fail
            go_meet
            case rel => exact HE.out
  case rest =>
    have HB := Lib.hid hcut
    clear hcut HF k7 hc26
    go_wp2_with fail
    refine (D2.out _ HB.out).mono ?_
    rintro e x1 ⟨q, b, hq, hb, rfl, hb2⟩
    replace HB := Lib.hid (below_then HB.out HB.out.size hb2)
    clear hb2 D2
    have k1 := fun W => PFnExactCountUses.CountUses_calls q b W (by omega) (by omega)
    have k2 := fun W => PFnExactCountUses.spec_calls q b W (by omega) (by omega)
    have k3 := fun W => PFnExactUsesOf.UsesOf_calls q b W (by omega) (by omega)
    have k4 := fun W => PFnExactUsesOf.spec_calls q b W (by omega) (by omega)
    have k5 := fun W => PFnExactIsLinear.IsLinear_calls q b W (by omega) (by omega)
    have k6 := fun W => PFnExactIsLinear.spec_calls q b W (by omega) (by omega)
    have k7 := fun W => PFnExactLevelOf.LevelOf_calls q b W (by omega) (by omega)
    have HS := second_half q b
    have hbd := usV_bd q b
    simp only [PFnExactCountUses.out, PFnExactUsesOf.out, PFnExactIsLinear.out] at k1 k2 k3 k4 k5 k6
    generalize withB q [b] = told at k1 k2 k3 k4 k5 k6
    generalize usV q b = u at k1 k2 k3 k4 k5 k6 HS hbd
    generalize (levV q b).1 = lv2 at k7 HS
    generalize (levV q b).2 = ok2 at k7 HS
    obtain ⟨g33, g63⟩ := gin_dirs u
    have hlin := lin_one u
    have hgc := fun c W => gIn_calls (PFnExactUsesOf.dirs u) c W (Nat.le_trans (show (PFnExactUsesOf.dirs u).length ≤ 2 by unfold PFnExactUsesOf.dirs; split <;> split <;> simp) (by omega))
    generalize PFnExactUsesOf.dirs u = ds at k3 k4 g33 g63 hgc
    generalize PFnExactIsLinear.linU u = lin at k5 k6 hlin
    obtain ⟨us, ur, uh, um, ug⟩ := u
    obtain ⟨bs, br, bh, _, _⟩ := hbd
    simp only at k1 k2 HS g33 g63 hlin bs br bh
    replace bs := Lib.hid bs
    replace br := Lib.hid br
    replace bh := Lib.hid bh
    replace HS := Lib.hid HS
    replace hlin := Lib.hid hlin
    have G33 : Hid (∀ W, Calls Tryz.prog 19 #[.string (B ds), .int .u8 33] W fun e w' => e = .returned (.bool (decide (0 < us))) ∧ w' = W) := fun W => by
      have := hgc 33 W
      rw [g33] at this
      exact this
    have G63 : Hid (∀ W, Calls Tryz.prog 19 #[.string (B ds), .int .u8 63] W fun e w' => e = .returned (.bool (decide (0 < ur))) ∧ w' = W) := fun W => by
      have := hgc 63 W
      rw [g63] at this
      exact this
    replace k1 := Lib.hid k1
    replace k2 := Lib.hid k2
    replace k3 := Lib.hid k3
    replace k4 := Lib.hid k4
    replace k5 := Lib.hid k5
    replace k6 := Lib.hid k6
    replace k7 := Lib.hid k7
    clear hq hb hgc g33 g63
    go_wp2_with fail
    refine (k1.out _).mono ?_
    rintro e x2 ⟨rfl, hb⟩
    replace HB := Lib.hid (below_then HB.out HB.out.size hb)
    clear hb k1
    go_wp2_with fail
    refine (k2.out _).mono ?_
    rintro e x3 ⟨rfl, hb⟩
    replace HB := Lib.hid (below_then HB.out HB.out.size hb)
    clear hb k2
    go_wp2_with fail
    refine (k3.out _).mono ?_
    rintro e x4 ⟨rfl, hb⟩
    replace HB := Lib.hid (below_then HB.out HB.out.size hb)
    clear hb k3
    go_wp2_with fail
    refine (k4.out _).mono ?_
    rintro e x5 ⟨rfl, hb⟩
    replace HB := Lib.hid (below_then HB.out HB.out.size hb)
    clear hb k4
    go_wp2_with fail
    refine (k5.out _).mono ?_
    rintro e x6 ⟨rfl, hb⟩
    replace HB := Lib.hid (below_then HB.out HB.out.size hb)
    clear hb k5
    go_wp2_with fail
    refine (k6.out _).mono ?_
    rintro e x7 ⟨rfl, hb⟩
    replace HB := Lib.hid (below_then HB.out HB.out.size hb)
    clear hb k6
    rcases told with _ | _
    · go_wp2_with fail
      go_ret
      exact ⟨rfl, HB.out⟩
    go_upto_region 31 with fail
    go_cut [284] from 258 to 284 (fun v wc => v = .bool false ∧ x7 = wc)
    case first =>
      by_cases hs : 0 < us
      · by_cases hr : 0 < ur
        · rw [decide_eq_true hs] at G33
          rw [decide_eq_true hr] at G63
          have hs' : (us : Int) > 0 := by omega
          have hr' : (ur : Int) > 0 := by omega
          rcases lin with _ | _
          · go_wp2_with fail
            refine (G33.out _).mono ?_
            rintro e y1 ⟨rfl, rfl⟩
            go_wp2_with fail
            refine (G63.out _).mono ?_
            rintro e y2 ⟨rfl, rfl⟩
            go_wp2_with fail
            go_meet
            case rel => exact ⟨rfl, rfl⟩
          · obtain ⟨rfl, rfl, rfl⟩ := hlin.out rfl
            go_wp2_with fail
            refine (G33.out _).mono ?_
            rintro e y1 ⟨rfl, rfl⟩
            go_wp2_with fail
            refine (G63.out _).mono ?_
            rintro e y2 ⟨rfl, rfl⟩
            go_wp2_with fail
            go_meet
            case rel => exact ⟨rfl, rfl⟩
        · rw [decide_eq_true hs] at G33
          rw [decide_eq_false hr] at G63
          have hs' : (us : Int) > 0 := by omega
          have hr' : ¬ (ur : Int) > 0 := by omega
          obtain rfl : lin = false := by
            rcases lin with _ | _
            · rfl
            · obtain ⟨h1, h2, h3⟩ := hlin.out rfl
              omega
          go_wp2_with fail
          refine (G33.out _).mono ?_
          rintro e y1 ⟨rfl, rfl⟩
          go_wp2_with fail
          refine (G63.out _).mono ?_
          rintro e y2 ⟨rfl, rfl⟩
          go_wp2_with fail
          go_meet
          case rel => exact ⟨rfl, rfl⟩
      · have hs' : ¬ (us : Int) > 0 := by omega
        rw [decide_eq_false hs] at G33
        obtain rfl : lin = false := by
          rcases lin with _ | _
          · rfl
          · obtain ⟨h1, h2, h3⟩ := hlin.out rfl
            omega
        by_cases hr : 0 < ur
        · rw [decide_eq_true hr] at G63
          have hr' : (ur : Int) > 0 := by omega
          go_wp2_with fail
          refine (G33.out _).mono ?_
          rintro e y1 ⟨rfl, rfl⟩
          go_wp2_with fail
          refine (G63.out _).mono ?_
          rintro e y2 ⟨rfl, rfl⟩
          go_wp2_with fail
          go_meet
          case rel => exact ⟨rfl, rfl⟩
        · rw [decide_eq_false hr] at G63
          have hr' : ¬ (ur : Int) > 0 := by omega
          go_wp2_with fail
          refine (G33.out _).mono ?_
          rintro e y1 ⟨rfl, rfl⟩
          go_wp2_with fail
          refine (G63.out _).mono ?_
          rintro e y2 ⟨rfl, rfl⟩
          go_wp2_with fail
          go_meet
          case rel => exact ⟨rfl, rfl⟩
    obtain ⟨rfl, rfl⟩ := hcut
    clear G33 G63 hlin
    go_wp2_with fail
    refine (k7.out _).mono ?_
    rintro e x8 ⟨rfl, hb⟩
    replace HB := Lib.hid (below_then HB.out HB.out.size hb)
    clear hb k7
    rcases HS.out with rfl | ⟨rfl, h0, h1, hu⟩
    · go_wp2_with fail
      go_ret
      exact ⟨rfl, HB.out⟩
    · have hws : IntKind.i64.wrap ((us : Int) + (ur : Int)) = (us : Int) + (ur : Int) := by
        have := bs.out
        have := br.out
        rw [IntKind.wrap_i64]; omega
      have hbs := bs.out
      have hbr := br.out
      by_cases hsr : (us : Int) + (ur : Int) > 0
      · have hl : ¬ lv2 = 0 := by have := hu (by omega); omega
        go_wp2_with fail
        go_ret
        exact ⟨rfl, HB.out⟩
      · go_wp2_with fail
        go_ret
        exact ⟨rfl, HB.out⟩

end Go.Proofs.YtjgfgjhaghbehaaGreat.Dr
