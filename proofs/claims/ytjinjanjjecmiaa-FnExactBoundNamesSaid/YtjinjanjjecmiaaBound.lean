/- The walk of bound. -/
import Derived.Test.YtjinjanjjecmiaaFree
import Derived.Test.YtjinjanjjecmiaaSets
namespace Go.Proofs.Ytjinjanjjecmiaa
open Go.RowKit Go.Proofs.YtjinjanjjecmiaaW.PrintWords Go.Proofs.YtjinjanjjecmiaaW.PrintMore
set_option linter.unusedVariables false
set_option linter.unusedSimpArgs false

theorem bindsB_eq (k : UInt8) : bindsB k = decide (k = 63 ∨ k = 35) := by
  unfold bindsB; rw [Bool.eq_iff_iff]; first | done | simp
set_option maxHeartbeats 4000000 in
theorem bound_any (n : Nat) : ∀ (t : Tm) (w : World) (N b : Nat), t.size ≤ n → n ≤ 1000000 → Wf isLet t → Lies w N t b →
    Calls Try.prog 66 #[.pointer (some ⟨b, 0, none⟩)] w fun e w' => e = .returned (.int .u32 (setI t.bd)) ∧ w = w' := by
  induction n with
  | zero => intro t w N b h; have := t.size_pos; omega
  | succ n ih =>
    intro t w N b hs hn hw hl
    obtain ⟨o, cap, c0, c1, c2, c3, hk⟩ := hl.at
    have hlen : t.kids.length ≤ 2 := by cases t <;> simp [Tm.kids]
    have HK := Lib.hid hk; clear hk
    have HW := Lib.hid hw; clear hw
    go_enter Try.func66, Try.ntmps66
    go_wp2_with fail
    go_loop [3, 11] (fun a i => ∃ k : Nat, k ≤ t.kids.length ∧ i = .int .i64 k ∧ a = .int .u32 (setI (bds (t.kids.take k)))) (fun _ i => t.kids.length - (intOf i).toNat)
    case atStart => exact ⟨0, Nat.zero_le _, rfl, by rw [List.take_zero, show bds [] = noS from rfl, setI_empty]⟩
    case round =>
      obtain ⟨k, hk, rfl, rfl⟩ := hrel
      by_cases hlt : k < t.kids.length
      · obtain ⟨r, x, rfl, hc, hx⟩ := HK.out k hlt
        have h1 := Lib.hid (bds_take_succ t.kids k hlt)
        have h2 := kid_le t k hlt
        have HO := Lib.hid (set_or (bds (t.kids.take k)) t.kids[k].bd)
        go_wp2_with fail
        refine (ih _ _ N _ (by omega) (by omega) (kid_wf HW.out k hlt) hx).mono ?_
        rintro e w' ⟨rfl, rfl⟩
        go_wp2_with fail
        go_round
        case rel => exact ⟨k + 1, by omega, by go_num, by rw [h1.out, ← HO.out]⟩
        case measure => simp [intOf]; omega
      · have hke : k = t.kids.length := by omega
        subst hke
        rw [List.take_length]
        go_wp2_with fail
        refine (binds_calls t.kind b _ c0).mono ?_
        rintro e w' ⟨rfl, rfl⟩
        rcases bd_kids t HW.out with ⟨hkd, hb, hf⟩ | ⟨hkd, hf⟩
        · have HF := Lib.hid hf
          have HM := Lib.hid (set_or (bds t.kids) (eqS t.nb))
          have HB := Lib.hid hb
          have hbi : bindsB t.kind = true := by rw [bindsB_eq]; simpa using hkd
          rw [hbi]
          clear hf hkd hbi hb
          go_wp2_with fail
          refine (bit_calls HB.out _).mono ?_
          rintro e w' ⟨rfl, rfl⟩
          go_wp2_with fail
          go_ret
          exact ⟨by rw [HF.out, ← HM.out]; rfl, rfl⟩
        · have HF := Lib.hid hf
          have hbi : bindsB t.kind = false := by rw [bindsB_eq]; simpa using hkd
          rw [hbi]
          clear hf hkd hbi
          go_wp2_with fail
          go_ret
          exact ⟨by rw [HF.out]; rfl, rfl⟩

end Go.Proofs.Ytjinjanjjecmiaa
