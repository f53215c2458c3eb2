/- How many signs of a kind: the reference's. -/
import Derived.Test.YtfcadppidgkoaaaRefsCountKind
import Derived.Test.YtfcadppidgkoaaaBase
namespace Go.Proofs.Ytfcadppidgkoaaa.PCountKind
open Go.RowKit Go.Proofs.YtfcadppidgkoaaaW.PrintWords Go.Proofs.YtfcadppidgkoaaaW.PrintLast Go.Proofs.YtfcadppidgkoaaaW.PrintMore
set_option linter.unusedVariables false
set_option linter.unusedSimpArgs false

theorem cnt_step (k : Nat) (t : Tm) (c : UInt8) (hw : Wf nameB t) (hl : t.text.length ≤ 1000000) (hk : t.size + 2 ≤ k) :
    spec_tmCount.f (k + 2) (B t.text) (vl c) = spec_tmCount.l0 k (vl c) (if t.kind = c then 1 else 0) (t.kids.map fun u => B u.text) (t.kids.length : Int) 0 := by
  rw [spec_tmCount.f, kind_text hw hl (by omega), Option.bind_some]
  simp only [vl_inj]
  split <;> (rw [spec_tmCount.j0, parts_text hw hl (by omega), Option.bind_some, List.length_map]; try rfl)
theorem cnt_round {k : Nat} {c x : Int} {xs : List ByteArray} {i : Nat} {n : Int} (hn : n = xs.length) (hi : i < xs.length) (hl : xs.length ≤ 1000000) {y : Int} (h : spec_tmCount.f k (xs.getD i ByteArray.empty) c = some y) : spec_tmCount.l0 (k + 1) c x xs n i = spec_tmCount.l0 k c (wrap64 (x + y)) xs n ((i + 1 : Nat) : Int) := by
  subst hn
  rw [spec_tmCount.l0, if_pos (by omega), if_pos (by omega), if_pos (by omega), show rdOf ByteArray.empty xs (i : Int) = xs.getD i ByteArray.empty from rfl, h, Option.bind_some, wrap_id (x := (i : Int) + 1) (by omega) (by omega)]
  rfl
theorem cnt_end {k : Nat} {c x : Int} {xs : List ByteArray} {i : Nat} {n : Int} (hn : n = xs.length) (hi : i = xs.length) : spec_tmCount.l0 (k + 1) c x xs n i = some x := by
  subst hn; subst hi
  rw [spec_tmCount.l0, if_neg (by omega)]
theorem cnt_le (c : UInt8) (t : Tm) : cnt c t ≤ t.size := by
  induction t with
  | leaf => simp only [cnt, Tm.size]; split <;> omega
  | un k a b t ih => simp only [cnt, Tm.size]; split <;> omega
  | bin k a b t u ih1 ih2 => simp only [cnt, Tm.size]; split <;> omega

theorem count_text (c : UInt8) (t : Tm) : ∀ k, Wf nameB t → t.text.length ≤ 1000000 → 6 * t.size + 6 ≤ k → spec_tmCount.f k (B t.text) (vl c) = some (cnt c t : Int) := by
  have hx : ∀ k : UInt8, (0 : Int) ≤ (if k = c then 1 else 0) ∧ (if k = c then 1 else 0) ≤ (1 : Int) := fun k => by split <;> omega
  induction t with
  | leaf sk a b =>
    intro k hw hl hk
    simp only [Tm.size] at hk
    obtain ⟨k, rfl⟩ : ∃ m, k = m + 3 := ⟨k - 3, by omega⟩
    rw [cnt_step (k + 1) _ c hw hl (by simp only [Tm.size]; omega)]
    refine (cnt_end (xs := []) (i := 0) rfl rfl).trans ?_
    simp only [cnt, Tm.kind]
    by_cases h : sk = c <;> simp [h]
  | un sk a b t ih =>
    intro k hw hl hk
    simp only [Tm.size] at hk
    have hl2 : t.text.length ≤ 1000000 := by simp only [Tm.text, List.length_append] at hl; omega
    have hsz := size_le_text t
    have hd := cnt_le c t
    obtain ⟨k, rfl⟩ : ∃ m, k = m + 4 := ⟨k - 4, by omega⟩
    rw [cnt_step (k + 2) _ c hw hl (by simp only [Tm.size]; omega)]
    have r1 := cnt_round (k := k + 1) (c := vl c) (x := if sk = c then 1 else 0) (xs := [B t.text]) (i := 0) rfl (by simp) (by simp) (ih (k + 1) hw.2 hl2 (by omega))
    refine r1.trans ((cnt_end (i := 1) rfl rfl).trans ?_)
    have := hx sk
    rw [wrap_id (by omega) (by omega)]
    simp only [cnt]
    by_cases h : sk = c <;> simp [h]
  | bin sk a b t u ih1 ih2 =>
    intro k hw hl hk
    simp only [Tm.size] at hk
    have hl' := hl
    simp only [Tm.text, List.length_cons, List.length_append] at hl'
    have hsz := size_le_text t
    have hsz2 := size_le_text u
    have hd := cnt_le c t
    have hd2 := cnt_le c u
    obtain ⟨k, rfl⟩ : ∃ m, k = m + 5 := ⟨k - 5, by omega⟩
    rw [cnt_step (k + 3) _ c hw hl (by simp only [Tm.size]; omega)]
    have := hx sk
    have r1 := cnt_round (k := k + 2) (c := vl c) (x := if sk = c then 1 else 0) (xs := [B t.text, B u.text]) (i := 0) rfl (by simp) (by simp) (ih1 (k + 2) hw.2.2.2.1 (by omega) (by omega))
    rw [wrap_id (by omega) (by omega)] at r1
    have r2 := cnt_round (k := k + 1) (c := vl c) (x := (if sk = c then 1 else 0) + (cnt c t : Int)) (xs := [B t.text, B u.text]) (i := 1) rfl (by simp) (by simp) (ih2 (k + 1) hw.2.2.2.2 (by omega) (by omega))
    rw [wrap_id (by omega) (by omega)] at r2
    refine r1.trans (r2.trans ((cnt_end (i := 2) rfl rfl).trans ?_))
    simp only [cnt]
    by_cases h : sk = c <;> simp [h]

end Go.Proofs.Ytfcadppidgkoaaa.PCountKind
