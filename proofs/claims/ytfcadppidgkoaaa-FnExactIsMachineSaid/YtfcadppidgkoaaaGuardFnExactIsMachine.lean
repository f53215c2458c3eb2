/- The reference's guarded, at a term's text. -/
import Derived.Test.YtfcadppidgkoaaaRefsFnExactIsMachine
import Derived.Test.YtfcadppidgkoaaaInFnExactIsMachine
import Derived.Test.YtfcadppidgkoaaaBase
namespace Go.Proofs.Ytfcadppidgkoaaa.PFnExactIsMachine
open Go.RowKit Go.Proofs.YtfcadppidgkoaaaW.PrintWords Go.Proofs.YtfcadppidgkoaaaW.PrintLast Go.Proofs.YtfcadppidgkoaaaW.PrintMore
set_option linter.unusedVariables false
set_option linter.unusedSimpArgs false

theorem gua_step (k : Nat) (t : Tm) (hw : Wf nameB t) (hl : t.text.length ≤ 1000000) (hk : t.size + 2 ≤ k) :
    spec_tmGuarded.f (k + 1) (B t.text) = spec_tmGuarded.l0 k (B t.text) (t.kids.map fun u => B u.text) (t.kids.length : Int) 0 := by
  rw [spec_tmGuarded.f, parts_text hw hl hk, Option.bind_some, List.length_map]
theorem gua_round {k : Nat} {t u : Tm} (hw : Wf nameB t) (hl : t.text.length ≤ 1000000) (hk : t.size + 1 ≤ k) (hw2 : Wf nameB u) (hl2 : u.text.length ≤ 1000000) (hk2 : u.size + 10 ≤ k)
    {xs : List ByteArray} {i : Nat} {n : Int} (hn : n = xs.length) (hi : i < xs.length) (hlen : xs.length ≤ 1000000) (hx : xs.getD i ByteArray.empty = B u.text) {y : Bool} (h : spec_tmGuarded.f k (B u.text) = some y) :
    spec_tmGuarded.l0 (k + 1) (B t.text) xs n i = if ((vl t.kind != 43 || inG u.kind) && y) = true then spec_tmGuarded.l0 k (B t.text) xs n ((i + 1 : Nat) : Int) else some false := by
  subst hn
  have hin : spec_tmIn.f k (⟨#[33, 63, 126, 43, 48]⟩ : ByteArray) (vl u.kind) = some (inG u.kind) := tmIn_f [33, 63, 126, 43, 48] (by decide) u.kind k (by simp; omega)
  rw [spec_tmGuarded.l0, if_pos (by omega), if_pos (by omega), if_pos (by omega), show rdOf ByteArray.empty xs (i : Int) = xs.getD i ByteArray.empty from rfl, hx, kind_text hw hl hk, Option.bind_some, kind_text hw2 hl2 (by omega), Option.bind_some, h, hin, Option.bind_some, Option.bind_some, wrap_id (x := (i : Int) + 1) (by omega) (by omega)]
  by_cases hk43 : vl t.kind = 43
  · rw [if_pos hk43, show (vl t.kind != 43) = false from by simp [hk43]]
    cases inG u.kind <;> cases y <;> rfl
  · rw [if_neg hk43, show (vl t.kind != 43) = true from by simp [hk43]]
    cases y <;> rfl
theorem gua_end {k : Nat} {s : ByteArray} {xs : List ByteArray} {i : Nat} {n : Int} (hn : n = xs.length) (hi : i = xs.length) : spec_tmGuarded.l0 (k + 1) s xs n i = some true := by
  subst hn; subst hi
  rw [spec_tmGuarded.l0, if_neg (by omega)]

theorem gua_bool (x g h p q : Bool) : (if ((x || g) && p) = true then (if ((x || h) && q) = true then some true else some false) else some false) = some ((x || (g && h)) && (p && q)) := by
  cases x <;> cases g <;> cases h <;> cases p <;> cases q <;> rfl
theorem guarded_text (t : Tm) : ∀ k, Wf nameB t → t.text.length ≤ 1000000 → 6 * t.size + 20 ≤ k → spec_tmGuarded.f k (B t.text) = some ((pre t).all guaP) := by
  induction t with
  | leaf sk a b =>
    intro k hw hl hk
    simp only [Tm.size] at hk
    obtain ⟨k, rfl⟩ : ∃ m, k = m + 2 := ⟨k - 2, by omega⟩
    rw [gua_step (k + 1) _ hw hl (by simp only [Tm.size]; omega)]
    exact gua_end (xs := []) (i := 0) rfl rfl
  | un sk a b t ih =>
    intro k hw hl hk
    simp only [Tm.size] at hk
    have hl2 : t.text.length ≤ 1000000 := by simp only [Tm.text, List.length_append] at hl; omega
    obtain ⟨k, rfl⟩ : ∃ m, k = m + 3 := ⟨k - 3, by omega⟩
    rw [gua_step (k + 2) _ hw hl (by simp only [Tm.size]; omega)]
    have r1 := gua_round (k := k + 1) (xs := [B t.text]) (i := 0) hw hl (by simp only [Tm.size]; omega) hw.2 hl2 (by omega) rfl (by simp) (by simp) rfl (ih (k + 1) hw.2 hl2 (by omega))
    refine r1.trans ?_
    rw [show (vl (Tm.un sk a b t).kind != 43) = true from by rw [show (43 : Int) = vl 43 from rfl, vl_bne]; simpa [Tm.kind] using (kind_un hw).2.1]
    simp only [pre, List.all_cons, guaP, Bool.true_and, Bool.true_or]
    split
    · rename_i h; rw [h]; exact gua_end (i := 1) rfl rfl
    · rename_i h; rw [show (pre t).all guaP = false from by simpa using h]
  | bin sk a b t u ih1 ih2 =>
    intro k hw hl hk
    simp only [Tm.size] at hk
    have hl' := hl
    simp only [Tm.text, List.length_cons, List.length_append] at hl'
    obtain ⟨k, rfl⟩ : ∃ m, k = m + 4 := ⟨k - 4, by omega⟩
    rw [gua_step (k + 3) _ hw hl (by simp only [Tm.size]; omega)]
    have r1 := gua_round (k := k + 2) (xs := [B t.text, B u.text]) (i := 0) hw hl (by simp only [Tm.size]; omega) hw.2.2.2.1 (by omega) (by omega) rfl (by simp) (by simp) rfl (ih1 (k + 2) hw.2.2.2.1 (by omega) (by omega))
    have r2 := gua_round (k := k + 1) (xs := [B t.text, B u.text]) (i := 1) hw hl (by simp only [Tm.size]; omega) hw.2.2.2.2 (by omega) (by omega) rfl (by simp) (by simp) rfl (ih2 (k + 1) hw.2.2.2.2 (by omega) (by omega))
    refine r1.trans ?_
    rw [show ((0 + 1 : Nat) : Int) = ((1 : Nat) : Int) from rfl, r2, gua_end (i := 2) rfl rfl]
    simp only [pre, List.all_cons, List.all_append, guaP]
    exact gua_bool (vl sk != 43) _ _ _ _

end Go.Proofs.Ytfcadppidgkoaaa.PFnExactIsMachine
