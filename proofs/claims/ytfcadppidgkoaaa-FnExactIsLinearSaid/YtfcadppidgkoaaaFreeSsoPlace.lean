/- The reference's free names, at a term's text. -/
import Derived.Test.YtfcadppidgkoaaaBindssoPlace
import Derived.Test.YtfcadppidgkoaaaAddssoPlace
import Derived.Test.YtfcadppidgkoaaaLesssoPlace
import Derived.Test.YtfcadppidgkoaaaFree
namespace Go.Proofs.Ytfcadppidgkoaaa.PsoPlace
open Go.RowKit Go.Proofs.YtfcadppidgkoaaaW.PrintWords Go.Proofs.YtfcadppidgkoaaaW.PrintLast Go.Proofs.YtfcadppidgkoaaaW.PrintMore
set_option linter.unusedVariables false
set_option linter.unusedSimpArgs false

theorem bt0 (l : List UInt8) : bt (B l) 0 = at_ l 0 := bt_at l 0
theorem bt1 (l : List UInt8) : bt (B l) 1 = at_ l 1 := bt_at l 1
theorem bt2 (l : List UInt8) : bt (B l) 2 = at_ l 2 := bt_at l 2
theorem bt3 (l : List UInt8) : bt (B l) 3 = at_ l 3 := bt_at l 3
theorem add_s (p : UInt8 → Bool) {c : UInt8} (hc : isLet c = true) {k : Nat} (hk : 30 ≤ k) : spec_tmAdd.f k (B (sortL p)) (vl c) = some (B (sortL (orS p (eqS c)))) := by
  have := sort_len p
  rw [add_f _ (by omega) c k (by omega), ins_sort p hc]
theorem less_s (p : UInt8 → Bool) (c : UInt8) {k : Nat} (hk : 30 ≤ k) : spec_tmLess.f k (B (sortL p)) (vl c) = some (B (sortL (minusS p (eqS c)))) := by
  have := sort_len p
  rw [less_f _ (by omega) c k (by omega), sort_less]
theorem both_s (p q : UInt8 → Bool) {k : Nat} (hk : 100 ≤ k) : spec_tmBoth.f k (B (sortL p)) (B (sortL q)) = some (B (sortL (orS p q))) := by
  have := sort_len p
  have := sort_len q
  rw [both_f _ _ (by omega) (by omega) k (by omega), sort_both]

theorem fre_step (k : Nat) (t : Tm) (hw : Wf nameB t) (hl : t.text.length ≤ 1000000) (hk : t.size + 2 ≤ k) :
    spec_tmFree.f (k + 1) (B t.text) = spec_tmFree.l0 k (B t.text) (B (sortL noS)) (t.kids.map fun u => B u.text) (t.kids.length : Int) 0 := by
  rw [spec_tmFree.f, parts_text hw hl hk, Option.bind_some, List.length_map, sort_no]; rfl
theorem fre_round {k : Nat} {s : ByteArray} {p q : UInt8 → Bool} (hk : 100 ≤ k)
    {xs : List ByteArray} {i : Nat} {n : Int} (hn : n = xs.length) (hi : i < xs.length) (hlen : xs.length ≤ 1000000) {u : ByteArray} (hx : xs.getD i ByteArray.empty = u) (h : spec_tmFree.f k u = some (B (sortL q))) :
    spec_tmFree.l0 (k + 1) s (B (sortL p)) xs n i = spec_tmFree.l0 k s (B (sortL (orS p q))) xs n ((i + 1 : Nat) : Int) := by
  subst hn
  rw [spec_tmFree.l0, if_pos (by omega), if_pos (by omega), if_pos (by omega), show rdOf ByteArray.empty xs (i : Int) = xs.getD i ByteArray.empty from rfl, hx, h, Option.bind_some, both_s p q hk, Option.bind_some, wrap_id (x := (i : Int) + 1) (by omega) (by omega)]
  rfl
theorem orS_assoc (p q r : UInt8 → Bool) : orS (orS p q) r = orS p (orS q r) := by funext c; simp [orS, Bool.or_assoc]
theorem fre_end {k : Nat} {t : Tm} (hw : Wf isLet t) (hl : t.text.length ≤ 1000000) (hk : t.size + 100 ≤ k) {xs : List ByteArray} {i : Nat} {n : Int} (hn : n = i) :
    spec_tmFree.l0 (k + 2) (B t.text) (B (sortL (frs t.kids))) xs n i = some (B (sortL t.fr)) := by
  have hwn := Wf.names (fun c => let_name) hw
  have hbn := binds_text hwn hl (show t.size + 1 ≤ k + 1 by omega)
  have hj : ∀ s, spec_tmFree.j1 (k + 1) (B t.text) s = _ := fun s => by rw [spec_tmFree.j1, kind_text hwn hl (by omega), Option.bind_some]
  rw [spec_tmFree.l0, if_neg (by omega)]
  cases t with
  | leaf sk a b =>
    obtain rfl := kind_leaf hw
    have hb2 : spec_tmBinds.f (k + 1) (B (Tm.leaf 48 a b).text) = some (0, false) := hbn
    rw [hb2, Option.bind_some, if_neg (by decide), hj]
    rfl
  | un sk a b t =>
    have e : frs (Tm.un sk a b t).kids = t.fr := by simp [frs, Tm.kids, orS_no]
    rw [e]
    rcases hw.1 with ⟨hkk, ha, hb⟩ | ⟨rfl, _, hb⟩ | ⟨hkk, _, _⟩
    · rcases hkk with rfl | rfl | rfl
      · have hb2 : spec_tmBinds.f (k + 1) (B (Tm.un 33 a b t).text) = some (0, false) := hbn
        rw [hb2, Option.bind_some, if_neg (by decide), hj, if_pos (by rfl), text_33, bt0, bt2, if_pos (by rw [B_size]; simp; omega), at_cons_zero, add_s _ ha (by omega), Option.bind_some, if_pos (by rw [B_size]; simp; omega), at_cons_succ, at_cons_succ, at_cons_zero, add_s _ hb (by omega), Option.bind_some, orS_assoc]
        rfl
      · have hb2 : spec_tmBinds.f (k + 1) (B (Tm.un 63 a b t).text) = some (vl b, true) := hbn
        rw [hb2, Option.bind_some, if_pos rfl, less_s _ _ (by omega), Option.bind_some, hj, if_neg (by simp only [Tm.kind]; decide), if_pos (by rfl), text_63, bt0, if_pos (by rw [B_size]; simp; omega), at_cons_zero, add_s _ ha (by omega), Option.bind_some]
        rfl
      · have hb2 : spec_tmBinds.f (k + 1) (B (Tm.un 61 a b t).text) = some (0, false) := hbn
        rw [hb2, Option.bind_some, if_neg (by decide), hj, if_neg (by simp only [Tm.kind]; decide), if_neg (by simp only [Tm.kind]; decide), if_pos (by rfl), text_61, bt1, bt3, if_pos (by rw [B_size]; simp; omega), at_cons_succ, at_cons_zero, add_s _ ha (by omega), Option.bind_some, if_pos (by rw [B_size]; simp; omega), at_cons_succ, at_cons_succ, at_cons_succ, at_cons_zero, add_s _ hb (by omega), Option.bind_some, orS_assoc]
        rfl
    · have hb2 : spec_tmBinds.f (k + 1) (B (Tm.un 35 a b t).text) = some (vl b, true) := hbn
      rw [hb2, Option.bind_some, if_pos rfl, less_s _ _ (by omega), Option.bind_some, hj, if_neg (by simp only [Tm.kind]; decide), if_neg (by simp only [Tm.kind]; decide), if_neg (by simp only [Tm.kind]; decide)]
      rfl
    · rcases hkk with rfl | rfl
      · have hb2 : spec_tmBinds.f (k + 1) (B (Tm.un 42 a b t).text) = some (0, false) := hbn
        rw [hb2, Option.bind_some, if_neg (by decide), hj, if_neg (by simp only [Tm.kind]; decide), if_neg (by simp only [Tm.kind]; decide), if_neg (by simp only [Tm.kind]; decide)]
        rfl
      · have hb2 : spec_tmBinds.f (k + 1) (B (Tm.un 126 a b t).text) = some (0, false) := hbn
        rw [hb2, Option.bind_some, if_neg (by decide), hj, if_neg (by simp only [Tm.kind]; decide), if_neg (by simp only [Tm.kind]; decide), if_neg (by simp only [Tm.kind]; decide)]
        rfl
  | bin sk a b t u =>
    have e : frs (Tm.bin sk a b t u).kids = orS t.fr u.fr := by simp [frs, Tm.kids, orS_no]
    rw [e]
    rcases kind_bin hw with rfl | rfl
    · have hb2 : spec_tmBinds.f (k + 1) (B (Tm.bin 43 a b t u).text) = some (0, false) := hbn
      rw [hb2, Option.bind_some, if_neg (by decide), hj, if_neg (by simp only [Tm.kind]; decide), if_neg (by simp only [Tm.kind]; decide), if_neg (by simp only [Tm.kind]; decide)]
      rfl
    · have hb2 : spec_tmBinds.f (k + 1) (B (Tm.bin 38 a b t u).text) = some (0, false) := hbn
      rw [hb2, Option.bind_some, if_neg (by decide), hj, if_neg (by simp only [Tm.kind]; decide), if_neg (by simp only [Tm.kind]; decide), if_neg (by simp only [Tm.kind]; decide)]
      rfl

/-- The reference's free names. -/
theorem frees_text (t : Tm) : ∀ k, Wf isLet t → t.text.length ≤ 1000000 → 6 * t.size + 120 ≤ k → spec_tmFree.f k (B t.text) = some (B (sortL t.fr)) := by
  induction t with
  | leaf sk a b =>
    intro k hw hl hk
    simp only [Tm.size] at hk
    obtain ⟨k, rfl⟩ : ∃ m, k = m + 3 := ⟨k - 3, by omega⟩
    rw [fre_step (k + 2) _ (Wf.names (fun c => let_name) hw) hl (by simp only [Tm.size]; omega)]
    exact fre_end (t := .leaf sk a b) (i := 0) hw hl (by simp only [Tm.size]; omega) rfl
  | un sk a b t ih =>
    intro k hw hl hk
    simp only [Tm.size] at hk
    have hl2 : t.text.length ≤ 1000000 := by simp only [Tm.text, List.length_append] at hl; omega
    obtain ⟨k, rfl⟩ : ∃ m, k = m + 4 := ⟨k - 4, by omega⟩
    rw [fre_step (k + 3) _ (Wf.names (fun c => let_name) hw) hl (by simp only [Tm.size]; omega)]
    refine (fre_round (k := k + 2) (xs := [B t.text]) (i := 0) (by omega) rfl (by simp) (by simp) rfl (ih (k + 2) hw.2 hl2 (by omega))).trans ?_
    exact fre_end (t := .un sk a b t) (i := 1) hw hl (by simp only [Tm.size]; omega) rfl
  | bin sk a b t u ih1 ih2 =>
    intro k hw hl hk
    simp only [Tm.size] at hk
    have hl' := hl
    simp only [Tm.text, List.length_cons, List.length_append] at hl'
    obtain ⟨k, rfl⟩ : ∃ m, k = m + 5 := ⟨k - 5, by omega⟩
    rw [fre_step (k + 4) _ (Wf.names (fun c => let_name) hw) hl (by simp only [Tm.size]; omega)]
    refine (fre_round (k := k + 3) (xs := [B t.text, B u.text]) (i := 0) (by omega) rfl (by simp) (by simp) rfl (ih1 (k + 3) hw.2.2.2.1 (by omega) (by omega))).trans ?_
    refine (fre_round (k := k + 2) (xs := [B t.text, B u.text]) (i := 1) (by omega) rfl (by simp) (by simp) rfl (ih2 (k + 2) hw.2.2.2.2 (by omega) (by omega))).trans ?_
    exact fre_end (t := .bin sk a b t u) (i := 2) hw hl (by simp only [Tm.size]; omega) rfl

end Go.Proofs.Ytfcadppidgkoaaa.PsoPlace
