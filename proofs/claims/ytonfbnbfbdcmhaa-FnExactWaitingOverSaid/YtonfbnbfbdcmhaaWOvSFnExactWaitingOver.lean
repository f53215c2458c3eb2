/- The walk of the reference's WaitingOver. -/
import Derived.Test.YtonfbnbfbdcmhaaMachSFnExactWaitingOver
import Derived.Test.YtonfbnbfbdcmhaaWOver
namespace Go.Proofs.Ytonfbnbfbdcmhaa.PFnExactWaitingOver
open Go.RowKit Go.Proofs.YtonfbnbfbdcmhaaW.PrintWords Go.Proofs.YtonfbnbfbdcmhaaW.PrintLast Go.Proofs.YtonfbnbfbdcmhaaW.PrintMore
set_option linter.unusedVariables false
set_option linter.unusedSimpArgs false

theorem oneG_f (l : List UInt8) : spec_tmOne.f (B l) = some (oneL l) := by
  match l with
  | [] => simp [spec_tmOne.f, B_size, oneL]
  | [c] => exact one1_f c
  | a :: b :: l =>
    simp only [spec_tmOne.f, B_size, List.length_cons]
    rw [if_neg (by omega)]; rfl
theorem oneG_calls (l : List UInt8) (w : World) : Calls Try.prog 60 #[.string (B l)] w fun e w' => e = .returned (.bool (oneL l)) ∧ ∃ n, w' = w.drewN n :=
  (spec_tmOne.calls (B l) _ w (oneG_f l)).mono fun e w' ⟨h, k⟩ => ⟨h, k.out⟩
def OffAt (w : World) (o : Option Addr) (xs : List Off) : Prop := ∀ (i : Nat) (h : i < xs.length), ∃ g, o = some ⟨g, 0, none⟩ ∧ w.cell? ⟨g, i * 5, none⟩ = some (.int .u8 xs[i].f0) ∧ w.cell? ⟨g, i * 5 + 1, none⟩ = some (.int .u8 xs[i].f1) ∧ w.cell? ⟨g, i * 5 + 2, none⟩ = some (.int .u8 xs[i].f2) ∧ w.cell? ⟨g, i * 5 + 3, none⟩ = some (.string xs[i].f3) ∧ w.cell? ⟨g, i * 5 + 4, none⟩ = some (.bool xs[i].f4)
theorem OffAt.below {w w' : World} {o : Option Addr} {xs : List Off} (h : OffAt w o xs) (hb : Below w.heap.size w w') : OffAt w' o xs := fun i hi => by
  obtain ⟨g, e, c0, c1, c2, c3, c4⟩ := h i hi
  have hl : g < w.heap.size := World.block_lt_of_cell? w _ c0
  exact ⟨g, e, (hb.cell hl).trans c0, (hb.cell hl).trans c1, (hb.cell hl).trans c2, (hb.cell hl).trans c3, (hb.cell hl).trans c4⟩
theorem off_at {w : World} {base : Nat} {ok : Nat → Prop} {v : Value} {xs : List Off} (h : Kd.R k76 76 w base ok v xs) : ∃ o cap, v = .slice o xs.length cap ∧ xs.length ≤ cap ∧ OffAt w o xs := by
  obtain ⟨o, cap, rfl, hc, hC⟩ := Kd.R_reads h
  refine ⟨o, cap, rfl, hc, fun i hi => ?_⟩
  obtain ⟨g, cap2, e1, _, _, cells, hcells⟩ := Kd.R_form h (by omega)
  injection e1 with e2 e3 e4
  subst e2
  obtain ⟨c, hc1, hc2, hc3, _⟩ := Kd.R_elem h z76 (i : Int) (by omega) (by omega)
  rw [Int.toNat_natCast] at hc2 hc3
  have e5 : xs.getD i z76 = xs[i] := by simp [List.getD, List.getElem?_eq_getElem hi]
  rw [e5] at hc2
  obtain rfl := k76_openM hc2
  exact ⟨g, rfl, hc3 0 _ rfl, hc3 1 _ rfl, hc3 2 _ rfl, hc3 3 _ rfl, hc3 4 _ rfl⟩
theorem offers_calls (l : List UInt8) (h : simpleOk l = true) (w : World) : Calls Try.prog 61 #[.string (B l)] w fun e w' => ∃ o cap, e = .returned (.slice o (offs (parsed l).1).length cap) ∧ OffAt w' o (offs (parsed l).1) ∧ Below w.heap.size w w' := by
  obtain ⟨a1, a2, a3, a4⟩ := simple_facts h
  have e := offers_text (parsed l).1 1000 a2 (by rw [← a1]; omega) (by omega)
  rw [← a1] at e
  refine (spec_rdOffers.calls 1000 (B l) _ w e).mono ?_
  rintro e w' ⟨v, rfl, hr, hb⟩
  obtain ⟨o, cap, rfl, _, hat⟩ := off_at hr
  exact ⟨o, cap, rfl, hat, hb⟩
def isO (k c : UInt8) (o : Off) : Bool := (o.f1 == vl c) && (o.f0 == vl k)
theorem has_offs {t : Tm} (ht : Wf nameB t) (k c : UInt8) : (offs t).any (isO k c) = hasB t k c := by
  unfold hasB
  have e : ∀ x : UInt8 × UInt8 × UInt8, (x.1 == k && x.2.1 == c) = (((prW x).2 == vl c) && ((prW x).1 == vl k)) := fun x => by
    simp only [prW, vl_beq]; rw [Bool.and_comm]
  simp only [e]
  exact any_pr (offs t) t.ways prO prW (fun z => (z.2 == vl c) && (z.1 == vl k)) (offs_ways t ht)
def fl (b : Bool) : Int := if b then 1 else 0
theorem any_take (xs : List Off) (p : Off → Bool) (j : Nat) (h : j < xs.length) : (xs.take (j + 1)).any p = ((xs.take j).any p || p xs[j]) := by
  rw [List.take_succ_eq_append_getElem h, List.any_append]; simp

set_option maxHeartbeats 4000000 in
set_option maxRecDepth 100000 in
theorem specW_calls (own : List UInt8) (ready waiting : List (List UInt8)) (nm : List UInt8) (oR oW : Option Addr) (cR cW : Nat) (w : World) (hR : Strs w oR ready) (hW : Strs w oW waiting) (lo : own.length ≤ 1100000) (lr : ready.length ≤ 1100000) (lw : waiting.length ≤ 1100000) (hcw : waiting.length ≤ cW) :
    Calls Try.prog 29 #[.agg #[.string (B own), .slice oR ready.length cR, .slice oW waiting.length cW], .string (B nm)] w fun e w' => e = .returned (.tuple #[.int .i64 ((overV own ready waiting nm).1 : Nat), .int .i64 ((overV own ready waiting nm).2.1 : Nat), .bool (overV own ready waiting nm).2.2]) ∧ Below w.heap.size w w' := by
  obtain ⟨wa, hwa⟩ : ∃ wa, w.alloc (.cells #[.string (B own), .slice oR ready.length cR, .slice oW waiting.length cW] 35) = wa := ⟨_, rfl⟩
  have hba : Below w.heap.size w wa := by rw [← hwa]; exact below_alloc (Below.refl _ _) _
  have hm : MacAt w wa w.heap.size own ready waiting oR oW cR cW := ⟨by rw [← hwa]; exact heap_alloc_new w _, hR, hW, hba, rfl⟩
  have HM := Lib.hid hm
  obtain ⟨c0, c1, c2⟩ := hm.cells
  have HC := Lib.hid (maGood_calls own ready waiting oR oW cR cW wa hm.rd hm.wt lo lr lw hcw)
  have hl1 := oneG_calls nm
  have HL1 := Lib.hid hl1
  clear hR hW hm hba hl1
  go_enter Try.func29, Try.ntmps29
  go_wp2_with fail
  refine HC.out.mono ?_
  rintro e w1 ⟨rfl, hb1⟩
  have HM1 := Lib.hid (HM.out.below hb1)
  obtain ⟨d0, d1, d2⟩ := HM1.out.cells
  clear c0 c1 c2 hb1 HM HC hwa
  rcases hmm : machB own ready waiting with _ | _
  · have HV : Hid (overV own ready waiting nm = (0, 0, false)) := by simp [Hid, overV, hmm]
    clear hmm
    go_wp2_with fail
    go_ret3
    exact ⟨by rw [HV.out]; rfl, HM1.out.hb⟩
  have HMM := Lib.hid hmm
  clear hmm
  go_wp2_with fail
  refine (HL1.out w1).mono ?_
  rintro e w' ⟨rfl, n1, rfl⟩
  rcases hnn : oneL nm with _ | _
  · have HV : Hid (overV own ready waiting nm = (0, 0, false)) := by simp [Hid, overV, hnn]
    clear hnn
    go_wp2_with fail
    go_ret3
    exact ⟨by rw [HV.out]; rfl, pw_below_drewN HM1.out.hb _⟩
  obtain ⟨c, rfl, hcl⟩ := oneL_eq hnn
  have HV : Hid (overV own ready waiting [c] = (cntB waiting 33 c, cntB waiting 63 c, true)) := by simp [Hid, overV, hnn, HMM.out]
  have HSI := Lib.hid (machB_simple HMM.out)
  have hwl := HSI.out.2
  have hz : (B [c]).size = 1 := B_size [c]
  have hzl : 0 < (B [c]).size := by omega
  have hbk : (((B [c])[0]'hzl).toNat : Int) = vl c := rfl
  clear hnn hcl HMM HL1
  go_wp2_with fail
  go_loopw [7, 8, 26] (fun a b i wr => ∃ k : Nat, k ≤ waiting.length ∧ i = .int .i64 k ∧ a = .int .i64 ((cntB (waiting.take k) 33 c : Nat) : Int) ∧ b = .int .i64 ((cntB (waiting.take k) 63 c : Nat) : Int) ∧ MacAt w wr w.heap.size own ready waiting oR oW cR cW) (fun _ _ i _ => waiting.length - (intOf i).toNat)
  case atStart => exact ⟨0, Nat.zero_le _, rfl, rfl, rfl, HM1.out.below (pw_below_drewN (Below.refl _ _) _)⟩
  case round =>
    obtain ⟨k, hk, rfl, rfl, rfl, hm⟩ := hrel
    clear HM1 d0 d1 d2
    have HMR := Lib.hid hm
    have hwt := hm.wt
    clear hm
    have hc1 := cnt_le (waiting.take k) 33 c
    have hc2 := cnt_le (waiting.take k) 63 c
    rw [List.length_take] at hc1 hc2
    by_cases hlt : k < waiting.length
    · obtain ⟨g, rfl, e0⟩ := hwt k hlt
      have h33 := cnt_take waiting 33 c k hlt
      have h63 := cnt_take waiting 63 c k hlt
      obtain ⟨l, hl⟩ : ∃ l, waiting[k] = l := ⟨_, rfl⟩
      have HOK : Hid (simpleOk l = true) := HSI.out.1 l (by rw [← hl]; exact List.getElem_mem hlt)
      rw [hl] at e0 h33 h63
      obtain ⟨n33, hn33⟩ : ∃ n, cntB (waiting.take k) 33 c = n := ⟨_, rfl⟩
      obtain ⟨n63, hn63⟩ : ∃ n, cntB (waiting.take k) 63 c = n := ⟨_, rfl⟩
      rw [hn33] at h33 hc1 ⊢
      rw [hn63] at h63 hc2 ⊢
      obtain ⟨a1, a2, a3, a4⟩ := simple_facts HOK.out
      rw [← has_offs a2] at h33 h63
      have H33 := Lib.hid h33
      have H63 := Lib.hid h63
      have HOC := Lib.hid (fun W => offers_calls l HOK.out W)
      obtain ⟨xs, hxs⟩ : ∃ xs, offs (parsed l).1 = xs := ⟨_, rfl⟩
      have hxl : xs.length ≤ 100 := by rw [← hxs]; have := offs_len (parsed l).1; omega
      rw [hxs] at H33 H63 HOC
      clear hl hwt h33 h63 hn33 hn63 a1 a2 a3 a4 hxs HOK
      go_wp2_with fail
      refine (HOC.out _).mono ?_
      rintro e w2 ⟨o, cap, rfl, hat, hb2⟩
      have HM2 := Lib.hid (HMR.out.below hb2)
      have HAT := Lib.hid hat
      clear hat hb2 e0 HMR HOC
      go_wp2_with fail
      go_loopw [11, 12, 33] (fun a b i wr => ∃ j : Nat, j ≤ xs.length ∧ i = .int .i64 j ∧ a = .int .i64 (fl ((xs.take j).any (isO 33 c))) ∧ b = .int .i64 (fl ((xs.take j).any (isO 63 c))) ∧ MacAt w wr w.heap.size own ready waiting oR (some ⟨g, 0, none⟩) cR cW ∧ OffAt wr o xs) (fun _ _ i _ => xs.length - (intOf i).toNat)
      case atStart => exact ⟨0, Nat.zero_le _, rfl, rfl, rfl, HM2.out, HAT.out⟩
      case round =>
        obtain ⟨j, hj, rfl, rfl, rfl, hm, hat⟩ := hrel
        clear HM2 HAT
        have HMR := Lib.hid hm
        have HAT := Lib.hid hat
        clear hm
        by_cases hlt2 : j < xs.length
        · obtain ⟨g2, rfl, x0, x1, x2, x3, x4⟩ := hat j hlt2
          have A33 := Lib.hid (any_take xs (isO 33 c) j hlt2)
          have A63 := Lib.hid (any_take xs (isO 63 c) j hlt2)
          obtain ⟨y, hy⟩ : ∃ y, xs[j] = y := ⟨_, rfl⟩
          rw [hy] at x0 x1 x2 x3 x4 A33 A63
          obtain ⟨b33, hb33⟩ : ∃ b, (xs.take j).any (isO 33 c) = b := ⟨_, rfl⟩
          obtain ⟨b63, hb63⟩ : ∃ b, (xs.take j).any (isO 63 c) = b := ⟨_, rfl⟩
          rw [hb33] at A33 ⊢
          rw [hb63] at A63 ⊢
          clear hy hb33 hb63 hat
          have hbb : Below wr.heap.size wr (wr.alloc (.cells #[.int .u8 y.f0, .int .u8 y.f1, .int .u8 y.f2, .string y.f3, .bool y.f4] 76)) := below_alloc (Below.refl _ _) _
          have HMB := Lib.hid (HMR.out.below hbb)
          have HAB := Lib.hid (HAT.out.below hbb)
          have E33 : Hid (isO 33 c y = ((y.f1 == vl c) && (y.f0 == 33))) := rfl
          have E63 : Hid (isO 63 c y = ((y.f1 == vl c) && (y.f0 == 63))) := rfl
          clear hbb
          rcases q1 : (y.f1 == vl c) with _ | _
          · have R33 : Hid ((xs.take (j + 1)).any (isO 33 c) = b33) := by rw [Hid, A33.out, E33.out, q1]; try simp
            have R63 : Hid ((xs.take (j + 1)).any (isO 63 c) = b63) := by rw [Hid, A63.out, E63.out, q1]; try simp
            go_wp2_with fail
            go_quiet (fail)
            go_wp2_with fail
            go_quiet (fail)
            go_wp2_with fail
            go_roundw
            case rel => exact ⟨j + 1, by omega, by go_num, (by rw [R33.out] <;> try rfl), (by rw [R63.out] <;> try rfl), HMB.out.below (pw_below_drewN (Below.refl _ _) _), HAB.out.below (pw_below_drewN (Below.refl _ _) _)⟩
            case measure => exact meas4 _ _ hlt2
          rcases q2 : (y.f0 == 33) with _ | _
          · rcases q3 : (y.f0 == 63) with _ | _
            · have R33 : Hid ((xs.take (j + 1)).any (isO 33 c) = b33) := by rw [Hid, A33.out, E33.out, q2]; try simp
              have R63 : Hid ((xs.take (j + 1)).any (isO 63 c) = b63) := by rw [Hid, A63.out, E63.out, q3]; try simp
              go_wp2_with fail
              go_quiet (fail)
              go_wp2_with fail
              go_quiet (fail)
              go_wp2_with fail
              go_roundw
              case rel => exact ⟨j + 1, by omega, by go_num, (by rw [R33.out] <;> try rfl), (by rw [R63.out] <;> try rfl), HMB.out.below (pw_below_drewN (Below.refl _ _) _), HAB.out.below (pw_below_drewN (Below.refl _ _) _)⟩
              case measure => exact meas4 _ _ hlt2
            · have R33 : Hid ((xs.take (j + 1)).any (isO 33 c) = b33) := by rw [Hid, A33.out, E33.out, q2]; try simp
              have R63 : Hid ((xs.take (j + 1)).any (isO 63 c) = true) := by rw [Hid, A63.out, E63.out, q1, q3]; try simp
              go_wp2_with fail
              go_quiet (fail)
              go_wp2_with fail
              go_quiet (fail)
              go_wp2_with fail
              go_roundw
              case rel => exact ⟨j + 1, by omega, by go_num, (by rw [R33.out] <;> try rfl), (by rw [R63.out] <;> try rfl), HMB.out.below (pw_below_drewN (Below.refl _ _) _), HAB.out.below (pw_below_drewN (Below.refl _ _) _)⟩
              case measure => exact meas4 _ _ hlt2
          · have q3 : (y.f0 == 63) = false := by rw [beq_iff_eq] at q2; rw [q2]; rfl
            have R33 : Hid ((xs.take (j + 1)).any (isO 33 c) = true) := by rw [Hid, A33.out, E33.out, q1, q2]; try simp
            have R63 : Hid ((xs.take (j + 1)).any (isO 63 c) = b63) := by rw [Hid, A63.out, E63.out, q3]; try simp
            go_wp2_with fail
            go_quiet (fail)
            go_wp2_with fail
            go_quiet (fail)
            go_wp2_with fail
            go_roundw
            case rel => exact ⟨j + 1, by omega, by go_num, (by rw [R33.out] <;> try rfl), (by rw [R63.out] <;> try rfl), HMB.out.below (pw_below_drewN (Below.refl _ _) _), HAB.out.below (pw_below_drewN (Below.refl _ _) _)⟩
            case measure => exact meas4 _ _ hlt2
        · have hke : j = xs.length := by omega
          have F33 : Hid (cntB (waiting.take (k + 1)) 33 c = n33 + if (xs.take j).any (isO 33 c) = true then 1 else 0) := by rw [Hid, H33.out, hke, List.take_length]
          have F63 : Hid (cntB (waiting.take (k + 1)) 63 c = n63 + if (xs.take j).any (isO 63 c) = true then 1 else 0) := by rw [Hid, H63.out, hke, List.take_length]
          clear hke hat
          rcases h1 : (xs.take j).any (isO 33 c) with _ | _
          all_goals
            rw [h1] at F33
            clear h1
            rcases h2 : (xs.take j).any (isO 63 c) with _ | _
            all_goals
              rw [h2] at F63
              clear h2
              simp only [fl, if_true, if_false, Bool.false_eq_true]
              go_wp2_with fail
              go_roundw
              case rel => exact ⟨k + 1, by omega, by go_num, by rw [F33.out]; first | rfl | go_num | (congr 1; omega), by rw [F63.out]; first | rfl | go_num | (congr 1; omega), HMR.out⟩
              case measure => exact meas4 _ _ hlt
    · have hke : k = waiting.length := by omega
      have HV2 : Hid (overV own ready waiting [c] = (cntB (waiting.take k) 33 c, cntB (waiting.take k) 63 c, true)) := by rw [Hid, HV.out, hke, List.take_length]
      clear hke hwt
      go_wp2_with fail
      go_ret3
      exact ⟨by rw [HV2.out]; rfl, HMR.out.hb⟩

end Go.Proofs.Ytonfbnbfbdcmhaa.PFnExactWaitingOver
