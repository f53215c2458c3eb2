/- What the laws do with a slice of strings of a function's own: they compare it, write marks into it, and look whether the marks are there. -/
import Derived.Test.YtjinjanjjecmiaaPFnExactPartsOfx
import Derived.Test.YtjinjanjjecmiaaBase
import Derived.Lib.Hide
import Derived.Deep.LoopGhost
import Derived.WalkKit
import Derived.OwnWalk
import Derived.Outline
namespace Go.Proofs.Ytjinjanjjecmiaa.PFnExactPartsOf
open Go.RowKit Go.Proofs.YtjinjanjjecmiaaW.PrintWords Go.Proofs.YtjinjanjjecmiaaW.PrintLast Go.Proofs.YtjinjanjjecmiaaW.PrintMore
set_option linter.unusedVariables false
set_option linter.unusedSimpArgs false

/-- The mark with a number. -/
def mt (x : Nat) : ByteArray := (laws_markText.f 9 x).getD ByteArray.empty
theorem mt_f {x : Nat} (h : x < 64) : laws_markText.f 9 x = some (mt x) := by
  have : ∀ x : Nat, x < 64 → (laws_markText.f 9 x).isSome = true := by decide +kernel
  unfold mt
  obtain ⟨y, hy⟩ := Option.isSome_iff_exists.mp (this x h)
  rw [hy]; rfl
theorem mt_up {x : Nat} (h : x < 64) {f : Nat} (hf : 9 ≤ f) : laws_markText.f f x = some (mt x) := by
  obtain ⟨d, rfl⟩ : ∃ d, f = 9 + d := ⟨f - 9, by omega⟩
  clear hf
  induction d with
  | zero => exact mt_f h
  | succ d ih => exact laws_markText.mono _ _ _ ih
/-- Marks from k on, up to i of them, then what was there. -/
def Marked (m : List ByteArray) (n k i : Nat) : Prop := m.length = n ∧ ∀ j, j < i → m[j]? = some (mt (k + j))
theorem rdOf_get {α : Type} {d x : α} {l : List α} {i : Nat} (h : l[i]? = some x) : rdOf d l (i : Int) = x := by
  unfold rdOf; simp [List.getD, h]

theorem grown_of_below {w w' : World} {row : Option Nat} (h : Below w.heap.size w w') : w.grownBy w' row := by
  obtain ⟨a, b, c, d, e⟩ := h
  exact ⟨a, b, c, d, fun i hi _ => e i hi⟩
theorem grown_then {a w w' : World} {row : Option Nat} (h : a.grownBy w row) (k : w.grownBy w' row) : a.grownBy w' row :=
  ⟨k.os.trans h.os, k.tape.trans h.tape, k.output.trans h.output, Nat.le_trans h.size k.size, fun i hi hr => (k.block i (Nat.lt_of_lt_of_le hi h.size) hr).trans (h.block i hi hr)⟩

set_option maxHeartbeats 2000000 in
theorem mark_calls (base : Nat) (ok : Nat → Prop) (v : Value) (l : List ByteArray) (k : Nat) (w : World) (hk : k + l.length ≤ 60) (h : Kd.R Kd.string 9 w base ok v l) (hbw : base ≤ w.heap.size) :
    Calls Try.prog 30 #[v, .int .i64 k] w fun e w' => e = .returned (.int .i64 ((k + l.length : Nat) : Int)) ∧ (∃ m, Marked m l.length k l.length ∧ Kd.R Kd.string 9 w' base ok v m) ∧ w.grownBy w' v.ownBlock ∧ Below base w w' := by
  obtain ⟨A, c, rfl⟩ := Kd.R_slice h
  have H := Lib.hid h
  clear h
  go_enter Try.func30, Try.ntmps30
  go_wp2_with fail
  go_loopw [1, 5] (fun a i wr => ∃ j : Nat, j ≤ l.length ∧ i = .int .i64 j ∧ a = .int .i64 ((k + j : Nat) : Int) ∧ (∃ m, Marked m l.length k j ∧ Kd.R Kd.string 9 wr base ok (.slice A l.length c) m) ∧ w.grownBy wr (Value.slice A l.length c).ownBlock ∧ Below base w wr) (fun _ i _ => l.length - (intOf i).toNat)
  case atStart => exact ⟨0, Nat.zero_le _, rfl, rfl, ⟨l, ⟨rfl, fun j hj => absurd hj (Nat.not_lt_zero _)⟩, H.out⟩, World.grownBy.refl _ _, Below.refl _ _⟩
  case round =>
    obtain ⟨j, hj, rfl, rfl, ⟨m, hm, hr⟩, hg, hb⟩ := hrel
    by_cases hlt : j < l.length
    · obtain ⟨g, cap, he, hgb, hgl, _⟩ := Kd.R_form hr (by rw [hm.1]; omega)
      rw [hm.1] at he
      injection he with he1 _ he2
      subst he1 he2
      have ht := laws_markText.calls 9 ((k + j : Nat) : Int) (mt (k + j)) wr (mt_f (by omega))
      have HM := Lib.hid hm
      have HR := Lib.hid hr
      have HG := Lib.hid hg
      have HB := Lib.hid hb
      have HGB := Lib.hid hgb
      clear hm hr hg hb hgb hgl
      go_wp2_with fail
      refine ht.mono ?_
      rintro e w1 ⟨rfl, hb1⟩
      clear ht
      have hr1 := Kd.R_below HR.out hb1
      rw [← HM.out.1] at hr1
      obtain ⟨c1, f1⟩ := Kd.R_cell ByteArray.empty hr1 (j : Int) (by omega) (by rw [HM.out.1]; omega)
      have HP := Lib.hid (Kd.R_put hr1 (j : Int) (mt (k + j)))
      replace HG := Lib.hid (grown_then HG.out (grown_of_below hb1))
      replace HB := Lib.hid (below_then HB.out (Nat.le_trans hbw HB.out.size) hb1)
      rw [Int.toNat_natCast] at c1 f1 HP
      clear hb1 hr1 HR
      go_wp2_with fail
      go_roundw
      case rel =>
        refine ⟨j + 1, by omega, by go_num, by go_num, ⟨m.set j (mt (k + j)), ⟨by rw [List.length_set]; exact HM.out.1, fun i hi => ?_⟩, ?_⟩, ?_, ?_⟩
        · rcases Nat.lt_or_ge i j with h | h
          · rw [List.getElem?_set_ne (by omega)]; exact HM.out.2 i h
          · rw [show i = j from by omega, List.getElem?_set_self (by rw [HM.out.1]; omega)]
        · have := HP.out.1
          rw [HM.out.1] at this
          exact this
        · exact grown_then HG.out HP.out.2
        · exact HB.out.setCell HGB.out _
      case measure => simp [intOf]; omega
    · have hje : j = l.length := by omega
      subst hje
      have HM := Lib.hid hm
      have HR := Lib.hid hr
      have HG := Lib.hid hg
      have HB := Lib.hid hb
      clear hm hr hg hb
      go_wp2_with fail
      go_ret
      exact ⟨rfl, ⟨m, HM.out, HR.out⟩, HG.out, HB.out⟩

theorem held_l (m : List ByteArray) (n k : Nat) (hk : k + n ≤ 60) (hm : Marked m n k n) (d : Nat) : ∀ (j f : Nat), j + d = n → d + 10 < f → laws_heldStringS.l0 f m ((k + j : Nat) : Int) (j : Int) = some ((k + n : Nat) : Int) := by
  induction d with
  | zero =>
    intro j f hj hf
    obtain ⟨f, rfl⟩ : ∃ x, f = x + 1 := ⟨f - 1, by omega⟩
    rw [laws_heldStringS.l0, if_neg (by rw [hm.1]; omega), show j = n from by omega]
  | succ d ih =>
    intro j f hj hf
    obtain ⟨f, rfl⟩ : ∃ x, f = x + 1 := ⟨f - 1, by omega⟩
    have hmt : laws_markText.f f ((k + j : Nat) : Int) = some (mt (k + j)) := mt_up (by omega) (by omega)
    have e := ih (j + 1) f (by omega) (by omega)
    rw [laws_heldStringS.l0, if_pos (by rw [hm.1]; omega), if_pos (by omega), hmt, Option.bind_some, rdOf_get (hm.2 j (by omega)), if_pos rfl,
      wrap_id (x := ((k + j : Nat) : Int) + 1) (by omega) (by omega), wrap_id (x := (j : Int) + 1) (by omega) (by omega)]
    exact e
theorem held_f (m : List ByteArray) (n k f : Nat) (hk : k + n ≤ 60) (hm : Marked m n k n) (hf : n + 10 < f) : laws_heldStringS.f f m (k : Int) = some ((k + n : Nat) : Int) := held_l m n k hk hm n 0 f (by omega) hf
theorem eq_l (l : List ByteArray) (hl : l.length ≤ 1000) (d : Nat) : ∀ (j f : Nat), j + d = l.length → d < f → laws_eqStringS.l0 f l l (j : Int) = some true := by
  induction d with
  | zero =>
    intro j f hj hf
    obtain ⟨f, rfl⟩ : ∃ x, f = x + 1 := ⟨f - 1, by omega⟩
    rw [laws_eqStringS.l0, if_neg (by omega)]
  | succ d ih =>
    intro j f hj hf
    obtain ⟨f, rfl⟩ : ∃ x, f = x + 1 := ⟨f - 1, by omega⟩
    have e := ih (j + 1) f (by omega) (by omega)
    rw [laws_eqStringS.l0, if_pos (by omega), if_pos (by omega), if_pos (by omega), if_pos rfl, wrap_id (x := (j : Int) + 1) (by omega) (by omega)]
    exact e
theorem eq_f (l : List ByteArray) (f : Nat) (hl : l.length ≤ 1000) (hf : l.length < f) : laws_eqStringS.f f l l = some true := by
  unfold laws_eqStringS.f
  rw [if_pos rfl]
  exact eq_l l hl l.length 0 f (by omega) hf

theorem row_new (W : World) (base : Nat) (l : List ByteArray) (hb : base ≤ W.heap.size) (hl : l.length ≤ 1000) : Kd.R Kd.string 9 (W.alloc (.cells (l.map Value.string).toArray 9)) base (fun _ => True) (.slice (some ⟨W.heap.size, 0, none⟩) l.length l.length) l := by
  refine Kd.R_of_own ⟨by simp [encs], .inr ⟨W.heap.size, l.length, (l.map Value.string).toArray, rfl, hb, heap_alloc_new W _, Nat.le_refl _, by unfold maxLen; omega, by simp, ?_⟩⟩ (fun _ _ => trivial)
  simp only [encs, Nat.mul_one]
  rw [List.take_of_length_le (by simp)]
theorem row_one (W : World) (base : Nat) (x : ByteArray) (hb : base ≤ W.heap.size) : Kd.R Kd.string 9 (W.alloc (.cells #[.string x] 9)) base (fun _ => True) (.slice (some ⟨W.heap.size, 0, none⟩) 1 1) [x] := row_new W base [x] hb (by simp)
end Go.Proofs.Ytjinjanjjecmiaa.PFnExactPartsOf
