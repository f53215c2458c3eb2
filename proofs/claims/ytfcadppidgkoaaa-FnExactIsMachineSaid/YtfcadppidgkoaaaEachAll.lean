/- The walk of each with any closure: what the closure does with one sign more it does, sign after sign. -/
import Derived.Test.YtfcadppidgkoaaaBase
import Derived.Test.YtfcadppidgkoaaaFreeW
import Derived.Deep.LoopGhost
namespace Go.Proofs.Ytfcadppidgkoaaa.EAll
open Go.RowKit Go.Proofs.YtfcadppidgkoaaaW.PrintWords
set_option linter.unusedVariables false
set_option linter.unusedSimpArgs false

structure Does (b1 b2 : Value) (Q : Tm → Prop) (wb : World) (I : List Tm → World → Prop) : Prop where
  below : ∀ l w, I l w → Below wb.heap.size wb w
  step : ∀ (l : List Tm) (u : Tm) (w : World) (N x : Nat), Q u → Lies wb N u x → I l w → Calls Try.prog 144 #[.pointer (some ⟨x, 0, none⟩), b1, b2] w fun e w' => e = .returned (.tuple #[]) ∧ I (l ++ [u]) w'

def EachUpto (b1 b2 : Value) (Q : Tm → Prop) (wb : World) (I : List Tm → World → Prop) (n : Nat) : Prop := ∀ (t : Tm) (l : List Tm) (w : World) (N x : Nat), t.size ≤ n → n ≤ 1000000 → (∀ u, u ∈ pre t → Q u) → Lies wb N t x → I l w →
    Calls Try.prog 50 #[.pointer (some ⟨x, 0, none⟩), .func (.func 144) #[] #[b1, b2]] w fun e w' => e = .returned (.tuple #[]) ∧ I (l ++ pre t) w'

set_option maxHeartbeats 2000000 in
theorem each_any {b1 b2 : Value} {Q : Tm → Prop} {wb : World} {I : List Tm → World → Prop} (hp : Does b1 b2 Q wb I) (n : Nat) : EachUpto b1 b2 Q wb I n := by
  induction n with
  | zero => intro t l w N x hs; have := t.size_pos; omega
  | succ n ih =>
    intro t l w N x hs hn hq hl ht
    have hq0 : Q t := hq t (by rw [pre_kids]; simp)
    have HQ : Hid (∀ i, (hi : i < t.kids.length) → ∀ u, u ∈ pre t.kids[i] → Q u) := fun i hi u hu => hq u (by
      rw [pre_kids]; simp only [List.mem_cons, List.mem_flatten, List.mem_map]
      exact .inr ⟨_, ⟨_, List.getElem_mem hi, rfl⟩, hu⟩)
    obtain ⟨o, cap, _, _, _, c3, hk⟩ := hl.at
    have hlen : t.kids.length ≤ 2 := by cases t <;> simp [Tm.kids]
    have hbx : x < wb.heap.size := hl.lt
    have HK := Lib.hid hk
    clear hk hq
    have HL := Lib.hid hl
    have hstep := Lib.hid (hp.step l t w N x hq0 hl ht)
    clear ht hl hq0
    go_enter Try.func50, Try.ntmps50
    go_wp2_with fail
    refine hstep.out.mono ?_
    rintro e w1 ⟨rfl, ht1⟩
    have d3 : w1.cell? ⟨x, 3, none⟩ = some (.slice o t.kids.length cap) := ((hp.below _ _ ht1).cell hbx).trans c3
    have HT1 := Lib.hid ht1
    clear ht1 c3 hstep
    go_wp2_with fail
    go_loopw [14] (fun i wr => ∃ k : Nat, k ≤ t.kids.length ∧ i = .int .i64 k ∧ I (l ++ [t] ++ pres (t.kids.take k)) wr) (fun i _ => t.kids.length - (intOf i).toNat)
    case atStart => exact ⟨0, Nat.zero_le _, rfl, by simpa [pres] using HT1.out⟩
    case round =>
      obtain ⟨k, hk, rfl, hr⟩ := hrel
      have HR := Lib.hid hr
      clear hr
      by_cases hlt : k < t.kids.length
      · obtain ⟨r, y, rfl, hc, hy⟩ := HK.out k hlt
        have hc2 : wr.cell? ⟨r, k, none⟩ = some (.pointer (some ⟨y, 0, none⟩)) := ((hp.below _ _ HR.out).cell (World.block_lt_of_cell? wb _ hc)).trans hc
        have h2 := kid_le t k hlt
        have HS := Lib.hid (pres_take_succ t.kids k hlt)
        clear hc
        go_wp2_with fail
        refine (ih _ _ _ N y (by omega) (by omega) (HQ.out k hlt) hy HR.out).mono ?_
        rintro e w2 ⟨rfl, ht2⟩
        have HT2 := Lib.hid ht2
        clear ht2
        go_wp2_with fail
        go_roundw
        case rel => exact ⟨k + 1, by omega, by go_num, by rw [HS.out, ← List.append_assoc]; exact HT2.out⟩
        case measure => simp [intOf]; omega
      · have HF : Hid (l ++ [t] ++ pres (t.kids.take k) = l ++ pre t) := by
          show _ = _
          rw [show k = t.kids.length from by omega, List.take_length, pre_kids, List.append_assoc]; rfl
        go_wp2_with fail
        go_end0
        exact ⟨rfl, by rw [← HF.out]; exact HR.out⟩

end Go.Proofs.Ytfcadppidgkoaaa.EAll
