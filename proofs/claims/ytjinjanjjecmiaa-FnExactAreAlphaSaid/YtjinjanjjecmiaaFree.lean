/- The walks of binds, free and bound: the names of a term, as sets. -/
import Derived.Test.YtjinjanjjecmiaaBit
import Derived.Deep.QuietTactic
import Derived.BigQuiet
namespace Go.Proofs.Ytjinjanjjecmiaa
open Go.RowKit Go.Proofs.YtjinjanjjecmiaaW.PrintWords Go.Proofs.YtjinjanjjecmiaaW.PrintMore
set_option linter.unusedVariables false
set_option linter.unusedSimpArgs false

/-- Which names are free in a term. -/
def Tm.fr : Tm → UInt8 → Bool
  | .leaf _ _ _ => noS
  | .un k a b t => if k = 33 ∨ k = 61 then orS t.fr (orS (eqS a) (eqS b)) else if k = 63 then orS (minusS t.fr (eqS b)) (eqS a) else if k = 35 then minusS t.fr (eqS b) else t.fr
  | .bin _ _ _ t u => orS t.fr u.fr
def frs (l : List Tm) : UInt8 → Bool := l.foldl (fun a t => orS a t.fr) noS
theorem frs_take_succ (l : List Tm) (i : Nat) (h : i < l.length) : frs (l.take (i + 1)) = orS (frs (l.take i)) l[i].fr := by
  unfold frs; rw [List.take_succ_eq_append_getElem h, List.foldl_append]; rfl
theorem orS_no (p : UInt8 → Bool) : orS noS p = p := by funext c; simp [orS, noS]
theorem kid_wf {P : UInt8 → Bool} {t : Tm} (h : Wf P t) (i : Nat) (hi : i < t.kids.length) : Wf P t.kids[i] := by
  cases t with
  | leaf => simp [Tm.kids] at hi
  | un => simp [Tm.kids] at hi; subst hi; exact h.2
  | bin => simp [Tm.kids] at hi; rcases (by omega : i = 0 ∨ i = 1) with rfl | rfl
           · exact h.2.2.2.1
           · exact h.2.2.2.2
/-- What a sign does with the free names of its parts. -/
theorem fr_kids {t : Tm} (h : Wf isLet t) :
    ((t.kind = 33 ∨ t.kind = 61) ∧ isLet t.na = true ∧ isLet t.nb = true ∧ t.fr = orS (frs t.kids) (orS (eqS t.na) (eqS t.nb))) ∨
    (t.kind = 63 ∧ isLet t.na = true ∧ isLet t.nb = true ∧ t.fr = orS (minusS (frs t.kids) (eqS t.nb)) (eqS t.na)) ∨
    (t.kind = 35 ∧ isLet t.nb = true ∧ t.fr = minusS (frs t.kids) (eqS t.nb)) ∨
    (t.kind ≠ 33 ∧ t.kind ≠ 61 ∧ t.kind ≠ 63 ∧ t.kind ≠ 35 ∧ t.fr = frs t.kids) := by
  cases t with
  | leaf k a b =>
    obtain ⟨rfl, _⟩ := h
    exact .inr (.inr (.inr ⟨by simp [Tm.kind], by simp [Tm.kind], by simp [Tm.kind], by simp [Tm.kind], rfl⟩))
  | un k a b t =>
    have e : frs (Tm.un k a b t).kids = t.fr := by simp [frs, Tm.kids, orS_no]
    rw [e]
    simp only [Tm.kind, Tm.na, Tm.nb, Tm.fr]
    rcases h.1 with ⟨hk, ha, hb⟩ | ⟨rfl, _, hb⟩ | ⟨hk, _, _⟩
    · rcases hk with rfl | rfl | rfl
      · exact .inl ⟨.inl rfl, ha, hb, by simp⟩
      · exact .inr (.inl ⟨rfl, ha, hb, by simp⟩)
      · exact .inl ⟨.inr rfl, ha, hb, by simp⟩
    · exact .inr (.inr (.inl ⟨rfl, hb, by simp⟩))
    · rcases hk with rfl | rfl <;> exact .inr (.inr (.inr ⟨by decide, by decide, by decide, by decide, by simp⟩))
  | bin k a b t u =>
    have e : frs (Tm.bin k a b t u).kids = orS t.fr u.fr := by simp [frs, Tm.kids, orS_no]
    rw [e]
    simp only [Tm.kind, Tm.fr]
    rcases h.1 with rfl | rfl <;> exact .inr (.inr (.inr ⟨by decide, by decide, by decide, by decide, trivial⟩))

def bindsB (k : UInt8) : Bool := decide (k = 63 ∨ k = 35)
set_option maxHeartbeats 1000000 in
theorem binds_calls (k : UInt8) (b : Nat) (w : World) (hc : w.cell? ⟨b, 0, none⟩ = some (.int .u8 (vl k))) : Calls Try.prog 93 #[.pointer (some ⟨b, 0, none⟩)] w fun e w' => e = .returned (.bool (bindsB k)) ∧ w = w' := by
  have e1 : (vl k == 63) = decide (k = 63) := by rw [Bool.eq_iff_iff]; simp [← vl_inj]; rfl
  have e2 : (vl k == 35) = decide (k = 35) := by rw [Bool.eq_iff_iff]; simp [← vl_inj]; rfl
  by_cases h1 : k = 63
  · subst h1
    go_enter Try.func93, Try.ntmps93
    go_wp2_with fail
    go_ret
    exact ⟨rfl, rfl⟩
  · by_cases h2 : k = 35
    · subst h2
      go_enter Try.func93, Try.ntmps93
      go_wp2_with fail
      go_ret
      exact ⟨rfl, rfl⟩
    · have hb : Hid (bindsB k = false) := by simp [Hid, bindsB, h1, h2]
      simp only [h1, h2, decide_false] at e1 e2
      clear h1 h2
      go_enter Try.func93, Try.ntmps93
      go_wp2_with fail
      go_ret
      exact ⟨by rw [hb.out]; rfl, rfl⟩


theorem bindsB_eq (k : UInt8) : bindsB k = decide (k = 63 ∨ k = 35) := by
  unfold bindsB; rw [Bool.eq_iff_iff]; first | done | simp
theorem eq_vl {x : UInt8} (y : UInt8) : (vl x == vl y) = decide (x = y) := by rw [Bool.eq_iff_iff]; simp [← vl_inj]
theorem drewN_two (w : World) (m k : Nat) : (w.drewN m).drewN k = w.drewN (m + k) := World.drewN_drewN w m k

theorem bit_same {c : UInt8} (h : isLet c = true) (w : World) : Calls Try.prog 92 #[.int .u8 (vl c)] w fun e w' => e = .returned (.int .u32 (setI (eqS c))) ∧ w' = w :=
  (bit_calls h w).mono fun _ _ ⟨h1, h2⟩ => ⟨h1, h2.symm⟩
def FreeUpto (n : Nat) : Prop := ∀ (t : Tm) (w : World) (N b : Nat), t.size ≤ n → n ≤ 1000000 → Wf isLet t → Lies w N t b →
    Calls Try.prog 68 #[.pointer (some ⟨b, 0, none⟩)] w fun e w' => e = .returned (.int .u32 (setI t.fr)) ∧ ∃ m, w' = w.drewN m

set_option maxHeartbeats 4000000 in
set_option maxRecDepth 100000 in
theorem free_any (n : Nat) : FreeUpto n := by
  induction n with
  | zero => intro t w N b h; have := t.size_pos; omega
  | succ n ih =>
    intro t w N b hs hn hw hl
    obtain ⟨o, cap, c0, c1, c2, c3, hk⟩ := hl.at
    have hlen : t.kids.length ≤ 2 := by cases t <;> simp [Tm.kids]
    have HK := Lib.hid hk; clear hk
    have HW := Lib.hid hw; clear hw
    go_enter Try.func68, Try.ntmps68
    go_wp2_with fail
    go_loopw [3, 11] (fun a i wr => ∃ k : Nat, k ≤ t.kids.length ∧ i = .int .i64 k ∧ a = .int .u32 (setI (frs (t.kids.take k))) ∧ ∃ m, wr = w.drewN m) (fun _ i _ => t.kids.length - (intOf i).toNat)
    case atStart => exact ⟨0, Nat.zero_le _, rfl, by rw [List.take_zero, show frs [] = noS from rfl, setI_empty], 0, rfl⟩
    case round =>
      obtain ⟨k, hk, rfl, rfl, m, rfl⟩ := hrel
      by_cases hlt : k < t.kids.length
      · obtain ⟨r, x, rfl, hc, hx⟩ := HK.out k hlt
        have h1 := Lib.hid (frs_take_succ t.kids k hlt)
        have h2 := kid_le t k hlt
        have HO := Lib.hid (set_or (frs (t.kids.take k)) t.kids[k].fr)
        go_wp2_with fail
        refine (ih _ _ N _ (by omega) (by omega) (kid_wf HW.out k hlt) (hx.drewN _)).mono ?_
        rintro e w' ⟨rfl, m', rfl⟩
        go_wp2_with fail
        go_roundw
        case rel => exact ⟨k + 1, by omega, by go_num, by rw [h1.out, ← HO.out], _, rfl⟩
        case measure => simp [intOf]; omega
      · have hke : k = t.kids.length := by omega
        subst hke
        rw [List.take_length]
        go_wp2_with fail
        refine (binds_calls t.kind b _ (by simpa using c0)).mono ?_
        rintro e w' ⟨rfl, rfl⟩
        have H := fr_kids HW.out
        have q1 := eq_vl (x := t.kind) 33
        have q2 := eq_vl (x := t.kind) 61
        have q3 := eq_vl (x := t.kind) 63
        have p1 : vl 33 = 33 := rfl
        have p2 : vl 61 = 61 := rfl
        have p3 : vl 63 = 63 := rfl
        rw [p1] at q1
        rw [p2] at q2
        rw [p3] at q3
        clear p1 p2 p3
        rcases H with ⟨hkd, ha, hb, hf⟩ | ⟨hkd, ha, hb, hf⟩ | ⟨hkd, hb, hf⟩ | ⟨n1, n2, n3, n4, hf⟩
        · have HF := Lib.hid hf
          have HM := Lib.hid (set_or (frs t.kids) (orS (eqS t.na) (eqS t.nb)))
          have HM2 := Lib.hid (set_or (eqS t.na) (eqS t.nb))
          have hbi : bindsB t.kind = false := by rcases hkd with h | h <;> rw [h] <;> rfl
          have hsw : (vl t.kind == 33) = true ∨ (vl t.kind == 33) = false ∧ (vl t.kind == 61) = true := by
            rw [q1, q2]; rcases hkd with h | h <;> simp [h]
          rw [hbi]
          clear hf hkd hbi q1 q2 q3
          rcases hsw with q1 | ⟨q1, q2⟩
          all_goals
            go_wp2_with fail
            obtain ⟨W, hW⟩ : ∃ W, W = w.drewN m := ⟨_, rfl⟩
            rw [← hW]
            have d1 : W.cell? ⟨b, 1, none⟩ = some (.int .u8 (vl t.na)) := by rw [hW]; exact c1
            have d2 : W.cell? ⟨b, 2, none⟩ = some (.int .u8 (vl t.nb)) := by rw [hW]; exact c2
            have HWd := Lib.hid hW
            clear hW
            go_quiet (first | (go_at_call 92; exact Calls.quiet_of_same (bit_same ha _)) | (go_at_call 92; exact Calls.quiet_of_same (bit_same hb _)))
            go_wp2_with fail
            go_ret
            exact ⟨by rw [HF.out, ← HM.out, ← HM2.out]; rfl, _, by rw [HWd.out]; exact drewN_two _ _ _⟩
        · have HF := Lib.hid hf
          have HM := Lib.hid (set_andNot (frs t.kids) (eqS t.nb))
          have HM2 := Lib.hid (set_or (minusS (frs t.kids) (eqS t.nb)) (eqS t.na))
          have HB := Lib.hid hb
          have HA := Lib.hid ha
          clear hf hb ha
          rw [hkd] at c0 q1 q2 q3
          rw [hkd]
          simp only [show bindsB 63 = true from rfl]
          simp only [show decide ((63 : UInt8) = 33) = false from rfl, show decide ((63 : UInt8) = 61) = false from rfl, show decide ((63 : UInt8) = 63) = true from rfl] at q1 q2 q3
          clear hkd
          go_wp2_with fail
          refine (bit_calls HB.out _).mono ?_
          rintro e w' ⟨rfl, rfl⟩
          go_wp2_with fail
          refine (bit_calls HA.out _).mono ?_
          rintro e w' ⟨rfl, rfl⟩
          go_wp2_with fail
          go_ret
          exact ⟨by rw [HF.out, ← HM2.out, ← HM.out]; rfl, _, rfl⟩
        · have HF := Lib.hid hf
          have HM := Lib.hid (set_andNot (frs t.kids) (eqS t.nb))
          have HB := Lib.hid hb
          clear hf hb
          rw [hkd] at c0 q1 q2 q3
          rw [hkd]
          simp only [show bindsB 35 = true from rfl]
          simp only [show decide ((35 : UInt8) = 33) = false from rfl, show decide ((35 : UInt8) = 61) = false from rfl, show decide ((35 : UInt8) = 63) = false from rfl] at q1 q2 q3
          clear hkd
          go_wp2_with fail
          refine (bit_calls HB.out _).mono ?_
          rintro e w' ⟨rfl, rfl⟩
          go_wp2_with fail
          go_ret
          exact ⟨by rw [HF.out, ← HM.out]; rfl, _, rfl⟩
        · have HF := Lib.hid hf
          have hbi : bindsB t.kind = false := by simp [bindsB, n3, n4]
          rw [hbi]
          simp only [n1, n2, n3, decide_false] at q1 q2 q3
          clear hf n1 n2 n3 n4 hbi
          go_wp2_with fail
          go_ret
          exact ⟨by rw [HF.out]; rfl, _, rfl⟩

end Go.Proofs.Ytjinjanjjecmiaa
