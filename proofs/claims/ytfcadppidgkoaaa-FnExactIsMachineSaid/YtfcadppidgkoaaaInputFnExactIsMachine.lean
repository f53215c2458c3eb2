/- The reference's inputs behind repeated signs, at a term's text. -/
import Derived.Test.YtfcadppidgkoaaaGuardFnExactIsMachine
namespace Go.Proofs.Ytfcadppidgkoaaa.PFnExactIsMachine
open Go.RowKit Go.Proofs.YtfcadppidgkoaaaW.PrintWords Go.Proofs.YtfcadppidgkoaaaW.PrintLast Go.Proofs.YtfcadppidgkoaaaW.PrintMore
set_option linter.unusedVariables false
set_option linter.unusedSimpArgs false

theorem inp_step (k : Nat) (t : Tm) (hw : Wf nameB t) (hl : t.text.length ≤ 1000000) (hk : t.size + 2 ≤ k) :
    spec_tmInputs.f (k + 1) (B t.text) = spec_tmInputs.l0 k (B t.text) (t.kids.map fun u => B u.text) (t.kids.length : Int) 0 := by
  rw [spec_tmInputs.f, parts_text hw hl hk, Option.bind_some, List.length_map]
theorem inp_round {k : Nat} {t u : Tm} (hw : Wf nameB t) (hl : t.text.length ≤ 1000000) (hk : t.size + 1 ≤ k) (hw2 : Wf nameB u) (hl2 : u.text.length ≤ 1000000) (hk2 : u.size + 10 ≤ k)
    {xs : List ByteArray} {i : Nat} {n : Int} (hn : n = xs.length) (hi : i < xs.length) (hlen : xs.length ≤ 1000000) (hx : xs.getD i ByteArray.empty = B u.text) {y : Bool} (h : spec_tmInputs.f k (B u.text) = some y) :
    spec_tmInputs.l0 (k + 1) (B t.text) xs n i = if ((vl t.kind != 42 || vl u.kind == 63) && y) = true then spec_tmInputs.l0 k (B t.text) xs n ((i + 1 : Nat) : Int) else some false := by
  subst hn
  rw [spec_tmInputs.l0, if_pos (by omega), if_pos (by omega), if_pos (by omega), show rdOf ByteArray.empty xs (i : Int) = xs.getD i ByteArray.empty from rfl, hx, kind_text hw hl hk, Option.bind_some, kind_text hw2 hl2 (by omega), Option.bind_some, h, Option.bind_some, wrap_id (x := (i : Int) + 1) (by omega) (by omega)]
  by_cases hk43 : vl t.kind = 42
  · rw [if_pos hk43, show (vl t.kind != 42) = false from by simp [hk43]]
    by_cases h2 : vl u.kind = 63
    · rw [if_pos h2, show (vl u.kind == 63) = true from by simp [h2]]
      cases y <;> rfl
    · rw [if_neg h2, show (vl u.kind == 63) = false from by simp [h2]]
      cases y <;> rfl
  · rw [if_neg hk43, show (vl t.kind != 42) = true from by simp [hk43]]
    cases y <;> rfl
theorem inp_end {k : Nat} {s : ByteArray} {xs : List ByteArray} {i : Nat} {n : Int} (hn : n = xs.length) (hi : i = xs.length) : spec_tmInputs.l0 (k + 1) s xs n i = some true := by
  subst hn; subst hi
  rw [spec_tmInputs.l0, if_neg (by omega)]
theorem inp_bool (x g p : Bool) : (if ((x || g) && p) = true then some true else some false) = some ((x || g) && p) := by
  cases x <;> cases g <;> cases p <;> rfl
theorem inputs_text (t : Tm) : ∀ k, Wf nameB t → t.text.length ≤ 1000000 → 6 * t.size + 20 ≤ k → spec_tmInputs.f k (B t.text) = some ((pre t).all simP) := by
  induction t with
  | leaf sk a b =>
    intro k hw hl hk
    simp only [Tm.size] at hk
    obtain ⟨k, rfl⟩ : ∃ m, k = m + 2 := ⟨k - 2, by omega⟩
    rw [inp_step (k + 1) _ hw hl (by simp only [Tm.size]; omega)]
    exact inp_end (xs := []) (i := 0) rfl rfl
  | un sk a b t ih =>
    intro k hw hl hk
    simp only [Tm.size] at hk
    have hl2 : t.text.length ≤ 1000000 := by simp only [Tm.text, List.length_append] at hl; omega
    obtain ⟨k, rfl⟩ : ∃ m, k = m + 3 := ⟨k - 3, by omega⟩
    rw [inp_step (k + 2) _ hw hl (by simp only [Tm.size]; omega)]
    have r1 := inp_round (k := k + 1) (xs := [B t.text]) (i := 0) hw hl (by simp only [Tm.size]; omega) hw.2 hl2 (by omega) rfl (by simp) (by simp) rfl (ih (k + 1) hw.2 hl2 (by omega))
    refine r1.trans ?_
    have h2 : spec_tmInputs.l0 (k + 1) (B (Tm.un sk a b t).text) [B t.text] (([B t.text].length : Nat) : Int) ((0 + 1 : Nat) : Int) = some true := inp_end (i := 1) rfl rfl
    rw [h2]
    simp only [pre, List.all_cons, simP]
    exact inp_bool (vl sk != 42) _ _
  | bin sk a b t u ih1 ih2 =>
    intro k hw hl hk
    simp only [Tm.size] at hk
    have hl' := hl
    simp only [Tm.text, List.length_cons, List.length_append] at hl'
    obtain ⟨k, rfl⟩ : ∃ m, k = m + 4 := ⟨k - 4, by omega⟩
    rw [inp_step (k + 3) _ hw hl (by simp only [Tm.size]; omega)]
    have r1 := inp_round (k := k + 2) (xs := [B t.text, B u.text]) (i := 0) hw hl (by simp only [Tm.size]; omega) hw.2.2.2.1 (by omega) (by omega) rfl (by simp) (by simp) rfl (ih1 (k + 2) hw.2.2.2.1 (by omega) (by omega))
    have r2 := inp_round (k := k + 1) (xs := [B t.text, B u.text]) (i := 1) hw hl (by simp only [Tm.size]; omega) hw.2.2.2.2 (by omega) (by omega) rfl (by simp) (by simp) rfl (ih2 (k + 1) hw.2.2.2.2 (by omega) (by omega))
    refine r1.trans ?_
    rw [show ((0 + 1 : Nat) : Int) = ((1 : Nat) : Int) from rfl, r2, inp_end (i := 2) rfl rfl]
    rw [show (vl (Tm.bin sk a b t u).kind != 42) = true from by rcases kind_bin hw with rfl | rfl <;> rfl]
    simp only [pre, List.all_cons, List.all_append, simP, Bool.true_or, Bool.true_and]
    cases (pre t).all simP <;> cases (pre u).all simP <;> rfl

end Go.Proofs.Ytfcadppidgkoaaa.PFnExactIsMachine
