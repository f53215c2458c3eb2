/- The walk of the sorter's named with a closure: the free names of whose sorts the closure says yes. (Written by gen_named.py.) -/
import Derived.Test.YtonfbnbfbdcmhaaSortB
import Derived.Test.YtonfbnbfbdcmhaaSortA
namespace Go.Proofs.Ytonfbnbfbdcmhaa
open Go.RowKit Go.Proofs.YtonfbnbfbdcmhaaW.PrintWords Go.Proofs.YtonfbnbfbdcmhaaW.PrintMore Go.Maps
set_option linter.unusedVariables false
set_option linter.unusedSimpArgs false

theorem FreeAt.look2CarriedBy {w : World} {m k : Nat} {L L' : List UInt8} (h : FreeAt w m k L L') (c : UInt8) (z : Int) (hz : vl c = z) :
    (c ∈ L' → (Instr.lookup 57 (.map (some m)) (.int .u8 z) true).run Try.prog w = .ok (.tuple #[.int .i64 ((Srt.place L c : Nat) : Int), .bool true]) w) ∧
    (c ∉ L' → (Instr.lookup 57 (.map (some m)) (.int .u8 z) true).run Try.prog w = .ok (.tuple #[.int .i64 0, .bool false]) w) := by
  obtain ⟨D, hown, hD⟩ := h
  have hr := vl_range c
  have hwf : (Lit.int .u8 z).wf = true := by simp [Lit.wf, show IntKind.u8.min = 0 from rfl, show IntKind.u8.max = 255 from rfl]; omega
  obtain ⟨v, ps, hrun, hv⟩ := hown.look_ok (int_keyed Try.underlying5) Try.underlying57 (show (zeroValue 3).run Try.prog w = .ok (.int .i64 0) w from by kernel_rfl) (zd := .lit (.int .i64 0)) (zp := []) (plainElem_int Try.underlying3 (by decide)) (keyOf_int_mk Try.underlying5 hwf)
  obtain ⟨h1, h2⟩ := hD c
  rw [hz] at h1 h2
  rw [h1] at hrun
  obtain ⟨x, rfl, hx, _⟩ := plainElem_int_inv Try.underlying3 hv
  have hx1 := congrArg Prod.fst hx
  simp only at hx1
  refine ⟨fun hc => ?_, fun hc => ?_⟩
  · rw [h2 hc] at hx1
    simp only [DataW.lit.injEq, Lit.int.injEq, true_and] at hx1
    rw [hrun, ← hx1, decide_eq_true hc]
  · rw [decide_eq_false hc] at h1 hrun
    rw [atKey_of_not_has h1] at hx1
    simp only [DataW.lit.injEq, Lit.int.injEq, true_and] at hx1
    rw [hrun, ← hx1]
attribute [local irreducible] Utf8.encode
set_option maxHeartbeats 4000000 in
set_option maxRecDepth 100000 in
theorem namedCarriedBy_calls (hold : Nat → Bool) (p1 p2 : Value) {w : World} {N g m : Nat} {v1 v2 : Value} {s : Srt} {L : List UInt8} (h : SrAt w N g v1 v2 [.map (some m)] s) (hm : FreeAt w m 26 L L)
    (hh : ∀ c, c ∈ L → ∀ j, Calls Try.prog 59 #[.int .i64 ((Srt.place L c : Nat) : Int), p1, p2] (w.drewN j) fun e w' => e = .returned (.bool (hold (Srt.place L c))) ∧ ∃ k, w' = w.drewN k) :
    Calls Try.prog 55 #[.pointer (some ⟨g, 0, none⟩), .func (.func 59) #[] #[p1, p2]] w fun e w' => e = .returned (.string (B (sortL fun c => decide (c ∈ L) && hold (Srt.place L c)))) ∧ ∃ k, w' = w.drewN k := by
  have c2 := h.c2
  have HM := Lib.hid hm
  have HH := Lib.hid hh
  clear h hm hh
  obtain ⟨p, hp⟩ : ∃ p : UInt8 → Bool, p = fun c => decide (c ∈ L) && hold (Srt.place L c) := ⟨_, rfl⟩
  have HP : Hid (∀ c, p c = (decide (c ∈ L) && hold (Srt.place L c))) := fun c => by rw [hp]
  rw [← hp]
  clear hp
  go_enter Try.func55, Try.ntmps55
  go_wp2_with fail
  go_loopw [5, 6] (fun o c wr => ∃ i : Nat, i ≤ 26 ∧ c = .int .u8 (97 + i) ∧ o = .string (B (sortTo p i)) ∧ ∃ k, wr = w.drewN k) (fun _ c _ => 26 - (intOf c - 97).toNat)
  case atStart => exact ⟨0, by omega, rfl, rfl, 0, rfl⟩
  case round =>
    obtain ⟨i, hi, rfl, rfl, k, rfl⟩ := hrel
    by_cases hlt : i < 26
    · have HS := Lib.hid (sortTo_succ p i)
      have hlv : vl (letAt i) = 97 + (i : Nat) := letAt_vl (by omega)
      have hlo := FreeAt.look2CarriedBy (w := w.drewN k) (HM.out.keep rfl) (letAt i) _ hlv
      have d2 : (w.drewN k).cell? ⟨g, 2, none⟩ = some (.map (some m)) := c2
      have henc : Utf8.encode (97 + (i : Int)) = B [letAt i] := by
        have := enc_small (let_lt (isLet_iff.mpr ⟨i, hlt, rfl⟩))
        rw [letAt_vl (by omega)] at this; exact this
      have happ : B (sortTo p i) ++ B [letAt i] = B (sortTo p i ++ [letAt i]) := B_append _ _
      have hsz : (B (sortTo p i)).size ≤ 26 := by rw [B_size]; have := sortTo_len p i; omega
      have hsz1 : (B [letAt i]).size = 1 := by rw [B_size]; rfl
      by_cases hc : letAt i ∈ L
      · have hrun := hlo.1 hc
        have hcall := HH.out (letAt i) hc k
        have HPi : Hid (p (letAt i) = hold (Srt.place L (letAt i))) := by rw [Hid, HP.out, decide_eq_true hc]; rfl
        clear hlo hlv hc
        rcases hq : hold (Srt.place L (letAt i)) with _ | _
        · have HF2 : Hid (sortTo p (i + 1) = sortTo p i) := by rw [Hid, HS.out, HPi.out, hq]; simp
          rw [hq] at hcall
          clear hq
          go_wp2_with fail
          refine hcall.mono ?_
          rintro e w3 ⟨rfl, k3, rfl⟩
          clear hcall hrun d2
          go_wp2_with fail
          go_roundw
          case rel => exact ⟨i + 1, by omega, by go_num, by rw [HF2.out], k3, rfl⟩
          case measure => simp [intOf]; omega
        · have HF2 : Hid (sortTo p (i + 1) = sortTo p i ++ [letAt i]) := by rw [Hid, HS.out, HPi.out, hq]; rfl
          rw [hq] at hcall
          clear hq
          go_wp2_with fail
          refine hcall.mono ?_
          rintro e w3 ⟨rfl, k3, rfl⟩
          clear hcall hrun d2
          go_wp2_with fail
          go_roundw
          case rel => exact ⟨i + 1, by omega, by go_num, by rw [HF2.out], k3, rfl⟩
          case measure => simp [intOf]; omega
      · have hrun := hlo.2 hc
        have HF2 : Hid (sortTo p (i + 1) = sortTo p i) := by rw [Hid, HS.out, HP.out, decide_eq_false hc]; simp
        clear hlo hlv hc
        go_wp2_with fail
        go_roundw
        case rel => exact ⟨i + 1, by omega, by go_num, by rw [HF2.out], k, rfl⟩
        case measure => simp [intOf]; omega
    · have HF2 : Hid (sortTo p i = sortL p) := by
        show _ = _
        rw [show i = 26 from by omega, sortTo_all]
      go_wp2_with fail
      go_ret
      exact ⟨by rw [HF2.out]; rfl, _, rfl⟩
end Go.Proofs.Ytonfbnbfbdcmhaa
