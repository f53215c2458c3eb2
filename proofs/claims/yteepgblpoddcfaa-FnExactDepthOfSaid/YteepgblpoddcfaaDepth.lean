/- The walk of depth. -/
import Derived.Test.YteepgblpoddcfaaSize
import Derived.Test.YteepgblpoddcfaaWMore
namespace Go.Proofs.Yteepgblpoddcfaa
open Go.RowKit Go.Proofs.YteepgblpoddcfaaW.PrintWords Go.Proofs.YteepgblpoddcfaaW.PrintMore
attribute [local go_sem] max2_int max_two

def depths (l : List Tm) : Nat := l.foldl (fun a t => max a t.depth) 0
theorem depths_take_succ (l : List Tm) (i : Nat) (h : i < l.length) : depths (l.take (i + 1)) = max (depths (l.take i)) l[i].depth := by
  unfold depths; rw [List.take_succ_eq_append_getElem h, List.foldl_append]; rfl
theorem depths_kids (t : Tm) : depths t.kids + 1 = t.depth := by cases t <;> simp [depths, Tm.kids, Tm.depth]
theorem depth_le (t : Tm) : t.depth ≤ t.size := by
  induction t <;> simp [Tm.depth, Tm.size] <;> omega
theorem depths_le (l : List Tm) (m : Nat) (h : ∀ t, t ∈ l → t.depth ≤ m) : depths l ≤ m := by
  unfold depths
  suffices ∀ (l : List Tm) (a : Nat), a ≤ m → (∀ t, t ∈ l → t.depth ≤ m) → l.foldl (fun a t => max a t.depth) a ≤ m from this l 0 (by omega) h
  intro l
  induction l with
  | nil => intro a h _; exact h
  | cons t l ih =>
    intro a ha hl
    have h1 := hl t (by simp)
    exact ih _ (show max a t.depth ≤ m by omega) fun u hu => hl u (by simp [hu])

set_option maxHeartbeats 1000000 in
theorem depth_any (n : Nat) : ∀ (t : Tm) (w : World) (N b : Nat), t.size ≤ n → n ≤ 1000000 → Lies w N t b →
    Calls Try.prog 56 #[.pointer (some ⟨b, 0, none⟩)] w fun e w' => e = .returned (.int .i64 (t.depth : Nat)) ∧ w = w' := by
  induction n with
  | zero => intro t w N b h; have := t.size_pos; omega
  | succ n ih =>
    intro t w N b hs hn hl
    obtain ⟨o, cap, _, _, _, c3, hk⟩ := hl.at
    have hlen : t.kids.length ≤ 2 := by cases t <;> simp [Tm.kids]
    have HK := Lib.hid hk; clear hk
    have HS := Lib.hid (depths_kids t)
    go_enter Try.func56, Try.ntmps56
    go_wp2_with fail
    go_loop [3, 11] (fun a i => ∃ k : Nat, k ≤ t.kids.length ∧ i = .int .i64 k ∧ a = .int .i64 ((depths (t.kids.take k) : Nat) : Int)) (fun _ i => t.kids.length - (intOf i).toNat)
    case atStart => exact ⟨0, Nat.zero_le _, rfl, rfl⟩
    case round =>
      obtain ⟨k, hk, rfl, rfl⟩ := hrel
      by_cases hlt : k < t.kids.length
      · obtain ⟨r, x, rfl, hc, hx⟩ := HK.out k hlt
        have h1 := depths_take_succ t.kids k hlt
        have h2 := kid_le t k hlt
        have H1 := Lib.hid h1; clear h1
        go_wp2_with fail
        refine (ih _ _ N _ (by omega) (by omega) hx).mono ?_
        rintro e w' ⟨rfl, rfl⟩
        obtain ⟨m, hm⟩ : ∃ m, m = t.kids[k].depth := ⟨_, rfl⟩
        obtain ⟨d, hd⟩ : ∃ d, d = depths (t.kids.take k) := ⟨_, rfl⟩
        rw [← hm, ← hd] at H1
        rw [← hm, ← hd]
        clear hm hd
        go_wp2_with fail
        all_goals
          go_round
          case rel => exact ⟨k + 1, by omega, by go_num, by rw [H1.out]; first | go_num | (congr 1; omega)⟩
          case measure => simp [intOf]; omega
      · have hke : k = t.kids.length := by omega
        have HF : Hid (depths (t.kids.take k) + 1 = t.depth) := by rw [hke, List.take_length]; exact HS.out
        have hle := depth_le t
        have hle2 : depths (t.kids.take k) ≤ 1000000 := by have := HF.out; omega
        clear hke
        go_wp2_with fail
        go_ret
        exact ⟨ret_int (by have := HF.out; omega), rfl⟩

end Go.Proofs.Yteepgblpoddcfaa
