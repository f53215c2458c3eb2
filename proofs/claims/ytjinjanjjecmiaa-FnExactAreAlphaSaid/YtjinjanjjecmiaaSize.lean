/- The walk of size. -/
import Derived.Test.YtjinjanjjecmiaaProg
import Derived.Deep.LoopGhost
import Derived.WalkKit
import Derived.OwnWalk
import Derived.Test.YtjinjanjjecmiaaBase
import Derived.Lib.Hide
import Derived.Outline
namespace Go.Proofs.Ytjinjanjjecmiaa
open Go.RowKit Go.Proofs.YtjinjanjjecmiaaW.PrintWords

theorem ret_int {k : IntKind} {a b : Int} (h : a = b) : Ending.returned (.int k a) = .returned (.int k b) := by rw [h]
def sizes (l : List Tm) : Nat := (l.map Tm.size).sum
theorem sizes_take_succ (l : List Tm) (i : Nat) (h : i < l.length) : sizes (l.take (i + 1)) = sizes (l.take i) + l[i].size := by
  unfold sizes; rw [List.take_succ_eq_append_getElem h, List.map_append, List.sum_append]; rfl
theorem sizes_kids (t : Tm) : 1 + sizes t.kids = t.size := by cases t <;> simp [sizes, Tm.kids, Tm.size] <;> omega
theorem kid_le (t : Tm) (i : Nat) (h : i < t.kids.length) : t.kids[i].size < t.size := by
  cases t with
  | leaf => simp [Tm.kids] at h
  | un => simp [Tm.kids] at h; subst h; simp [Tm.kids, Tm.size]
  | bin => simp [Tm.kids] at h; rcases (by omega : i = 0 ∨ i = 1) with rfl | rfl <;> simp [Tm.kids, Tm.size] <;> omega
theorem sizes_take_le (l : List Tm) (i : Nat) : sizes (l.take i) ≤ sizes l := by
  have : sizes l = sizes (l.take i) + sizes (l.drop i) := by unfold sizes; rw [← List.sum_append, ← List.map_append, List.take_append_drop]
  omega

set_option maxHeartbeats 1000000 in
theorem size_any (n : Nat) : ∀ (t : Tm) (w : World) (N b : Nat), t.size ≤ n → n ≤ 1000000 → Lies w N t b →
    Calls Try.prog 80 #[.pointer (some ⟨b, 0, none⟩)] w fun e w' => e = .returned (.int .i64 (t.size : Nat)) ∧ w = w' := by
  induction n with
  | zero => intro t w N b h; have := t.size_pos; omega
  | succ n ih =>
    intro t w N b hs hn hl
    obtain ⟨o, cap, _, _, _, c3, hk⟩ := hl.at
    have hlen : t.kids.length ≤ 2 := by cases t <;> simp [Tm.kids]
    have HK := Lib.hid hk; clear hk
    have HS := Lib.hid (sizes_kids t)
    go_enter Try.func80, Try.ntmps80
    go_wp2_with fail
    go_loop [3, 11] (fun a i => ∃ k : Nat, k ≤ t.kids.length ∧ i = .int .i64 k ∧ a = .int .i64 ((1 + sizes (t.kids.take k) : Nat) : Int)) (fun _ i => t.kids.length - (intOf i).toNat)
    case atStart => exact ⟨0, Nat.zero_le _, rfl, rfl⟩
    case round =>
      obtain ⟨k, hk, rfl, rfl⟩ := hrel
      by_cases hlt : k < t.kids.length
      · obtain ⟨r, x, rfl, hc, hx⟩ := HK.out k hlt
        have h1 := sizes_take_succ t.kids k hlt
        have h2 := kid_le t k hlt
        have h3 := sizes_take_le t.kids (k + 1)
        have h4 := HS.out
        have h5 : (sizes (List.take k t.kids)) + t.kids[k].size ≤ 1000000 := by omega
        have H1 := Lib.hid h1; clear h1 h3 h4
        go_wp2_with fail
        refine (ih _ _ N _ (by omega) (by omega) hx).mono ?_
        rintro e w' ⟨rfl, rfl⟩
        go_wp2_with fail
        go_round
        case rel => exact ⟨k + 1, by omega, by go_num, by rw [H1.out]; go_num⟩
        case measure => simp [intOf]; omega
      · have hke : k = t.kids.length := by omega
        have HF : Hid (1 + sizes (t.kids.take k) = t.size) := by rw [hke, List.take_length]; exact HS.out
        clear hke
        go_wp2_with fail
        go_ret
        exact ⟨ret_int (by have := HF.out; omega), rfl⟩
end Go.Proofs.Ytjinjanjjecmiaa
