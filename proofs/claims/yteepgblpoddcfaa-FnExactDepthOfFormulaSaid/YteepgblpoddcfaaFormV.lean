/- The program's depth of a formula. -/
import Derived.Test.YteepgblpoddcfaaFormW
namespace Go.Proofs.Yteepgblpoddcfaa
open Go.RowKit Go.Proofs.YteepgblpoddcfaaW.PrintWords Go.Proofs.YteepgblpoddcfaaW.PrintMore
set_option linter.unusedVariables false
set_option linter.unusedSimpArgs false
theorem meas2 (n k : Nat) (h : k < n) : n - (intOf (.int .i64 ((k + 1 : Nat) : Int))).toNat < n - (intOf (.int .i64 (k : Nat))).toNat := by simp [intOf]; omega
theorem max2i (a b : Int) (h : a ≤ b) : max a b = b := by omega
theorem ret_int {x y : Nat} (h : x = y) : Ending.returned (.int .i64 (x : Int)) = .returned (.int .i64 (y : Int)) := by rw [h]
section
attribute [local go_sem] max2_int max_two
def fdeps (l : List Fm) : Nat := l.foldl (fun a t => max a t.depth) 0
theorem fdeps_take (l : List Fm) (i : Nat) (h : i < l.length) : fdeps (l.take (i + 1)) = max (fdeps (l.take i)) l[i].depth := by
  unfold fdeps; rw [List.take_succ_eq_append_getElem h, List.foldl_append]; rfl
theorem fdeps_kids (t : Fm) : (if t.kind = 60 then fdeps t.kids + 1 else fdeps t.kids) = t.depth := by cases t <;> simp [fdeps, Fm.kids, Fm.depth, Fm.kind]
theorem fsize_pos (t : Fm) : 1 ≤ t.size := by cases t <;> simp [Fm.size] <;> omega
theorem fkid_le (t : Fm) (i : Nat) (h : i < t.kids.length) : t.kids[i].size + 1 ≤ t.size := by
  cases t with
  | tt => simp [Fm.kids] at h
  | neg f => simp [Fm.kids] at h; subst h; simp [Fm.kids, Fm.size]; omega
  | lab l f => simp [Fm.kids] at h; subst h; simp [Fm.kids, Fm.size]; omega
  | conj f g =>
    simp [Fm.kids] at h
    rcases (show i = 0 ∨ i = 1 from by omega) with rfl | rfl <;> simp [Fm.kids, Fm.size] <;> omega
theorem fdep_size (t : Fm) : t.depth ≤ t.size := by
  induction t <;> simp [Fm.depth, Fm.size] <;> omega
theorem fdeps_le (l : List Fm) (m : Nat) (h : ∀ t, t ∈ l → t.depth ≤ m) : fdeps l ≤ m := by
  unfold fdeps
  suffices ∀ (l : List Fm) (a : Nat), a ≤ m → (∀ t, t ∈ l → t.depth ≤ m) → l.foldl (fun a t => max a t.depth) a ≤ m from this l 0 (by omega) h
  intro l
  induction l with
  | nil => intro a h _; exact h
  | cons t l ih =>
    intro a ha hl
    have h1 := hl t (by simp)
    exact ih _ (show max a t.depth ≤ m by omega) fun u hu => hl u (by simp [hu])

set_option maxHeartbeats 1000000 in
theorem fdepth_any (n : Nat) : ∀ (t : Fm) (w : World) (N b : Nat), t.size ≤ n → n ≤ 1000000 → FLies w N t b →
    Calls Try.prog 49 #[.pointer (some ⟨b, 0, none⟩)] w fun e w' => e = .returned (.int .i64 (t.depth : Nat)) ∧ w = w' := by
  induction n with
  | zero => intro t w N b h; have := fsize_pos t; omega
  | succ n ih =>
    intro t w N b hs hn hl
    obtain ⟨o, cap, c1, c3, hk⟩ := hl.at
    have hlen : t.kids.length ≤ 2 := by cases t <;> simp [Fm.kids]
    have HK := Lib.hid hk; clear hk
    have HS := Lib.hid (fdeps_kids t)
    go_enter Try.func49, Try.ntmps49
    go_wp2_with fail
    go_loop [3, 11] (fun a i => ∃ k : Nat, k ≤ t.kids.length ∧ i = .int .i64 k ∧ a = .int .i64 ((fdeps (t.kids.take k) : Nat) : Int)) (fun _ i => t.kids.length - (intOf i).toNat)
    case atStart => exact ⟨0, Nat.zero_le _, rfl, rfl⟩
    case round =>
      obtain ⟨k, hk, rfl, rfl⟩ := hrel
      by_cases hlt : k < t.kids.length
      · obtain ⟨r, x, rfl, hc, hx⟩ := HK.out k hlt
        have h1 := fdeps_take t.kids k hlt
        have h2 := fkid_le t k hlt
        have H1 := Lib.hid h1; clear h1
        go_wp2_with fail
        refine (ih _ _ N _ (by omega) (by omega) hx).mono ?_
        rintro e w' ⟨rfl, rfl⟩
        obtain ⟨m, hm⟩ : ∃ m, m = t.kids[k].depth := ⟨_, rfl⟩
        obtain ⟨d, hd⟩ : ∃ d, d = fdeps (t.kids.take k) := ⟨_, rfl⟩
        rw [← hm, ← hd] at H1
        rw [← hm, ← hd]
        clear hm hd
        go_wp2_with fail
        all_goals
          go_round
          case rel => exact ⟨k + 1, by omega, by go_num, by rw [H1.out]; first | go_num | (congr 1; omega)⟩
          case measure => exact meas2 _ _ hlt
      · have hke : k = t.kids.length := by omega
        have HF : Hid ((if t.kind = 60 then fdeps (t.kids.take k) + 1 else fdeps (t.kids.take k)) = t.depth) := by rw [hke, List.take_length]; exact HS.out
        have hle := fdep_size t
        have hle2 : fdeps (t.kids.take k) ≤ 1000000 := by
          have := HF.out
          split at this <;> omega
        clear hke
        by_cases h6 : t.kind = 60
        · have e6 : (vl t.kind == 60) = true := by rw [h6]; rfl
          have HF2 : Hid (fdeps (t.kids.take k) + 1 = t.depth) := by have := HF.out; rw [if_pos h6] at this; exact this
          clear h6 HF
          go_wp2_with fail
          go_ret
          exact ⟨ret_int (by have := HF2.out; omega), rfl⟩
        · have e6 : (vl t.kind == 60) = false := by rw [beq_eq_false_iff_ne]; exact fun h => h6 (vl_inj.mp (h.trans rfl))
          have HF2 : Hid (fdeps (t.kids.take k) = t.depth) := by have := HF.out; rw [if_neg h6] at this; exact this
          clear h6 HF
          go_wp2_with fail
          go_ret
          exact ⟨ret_int (by have := HF2.out; omega), rfl⟩
end
end Go.Proofs.Yteepgblpoddcfaa
