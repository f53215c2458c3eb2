/- Several texts in one.
   The name that a sign binds: the reference's, at a term's text.
   Several texts in one.
   The reference's text without a letter.
   The reference's free names, at a term's text. -/
import Derived.Test.YtjgfgjhaghbehaaGreatRefssoPlace
import Derived.Test.YtjgfgjhaghbehaaGreatBase
import Derived.Test.YtjgfgjhaghbehaaGreatPsoPlacex
import Derived.Test.YtjgfgjhaghbehaaGreatFreeW
namespace Go.Proofs.YtjgfgjhaghbehaaGreat.PsoPlace
open Go.RowKit Go.Proofs.YtjgfgjhaghbehaaGreatW.PrintWords Go.Proofs.YtjgfgjhaghbehaaGreatW.PrintLast Go.Proofs.YtjgfgjhaghbehaaGreatW.PrintMore
set_option linter.unusedVariables false
set_option linter.unusedSimpArgs false

theorem bt_at (l : List UInt8) (j : Nat) : bt (B l) (j : Int) = at_ l j := by rw [bt_B]; rfl
theorem text_33 (a b : UInt8) (t : Tm) : (Tm.un 33 a b t).text = a :: 33 :: b :: 46 :: t.text := rfl
theorem text_63 (a b : UInt8) (t : Tm) : (Tm.un 63 a b t).text = a :: 63 :: b :: 46 :: t.text := rfl
theorem text_61 (a b : UInt8) (t : Tm) : (Tm.un 61 a b t).text = 91 :: a :: 61 :: b :: 93 :: t.text := rfl
theorem text_35 (a b : UInt8) (t : Tm) : (Tm.un 35 a b t).text = 35 :: b :: 46 :: t.text := rfl
theorem binds_text {t : Tm} {k : Nat} (hw : Wf nameB t) (hl : t.text.length ≤ 1000000) (hk : t.size + 1 ≤ k) :
    spec_tmBinds.f k (B t.text) = some (if t.kind = 63 ∨ t.kind = 35 then (vl t.nb, true) else (0, false)) := by
  rw [spec_tmBinds.f, kind_text hw hl hk, Option.bind_some]
  by_cases h1 : t.kind = 63
  · rw [if_pos (by rw [h1]; rfl), if_pos (c := t.kind = 63 ∨ t.kind = 35) (.inl h1)]
    cases t with
    | leaf a b c => obtain rfl := kind_leaf hw; exact absurd h1 (by simp only [Tm.kind]; decide)
    | bin a b c v u => exact absurd h1 (by rcases kind_bin hw with rfl | rfl <;> (simp only [Tm.kind]; decide))
    | un a b c v =>
      simp only [Tm.kind] at h1
      subst h1
      rw [text_63, show (2 : Int) = ((2 : Nat) : Int) from rfl, bt_at, if_pos (by rw [B_size]; simp; omega)]
      rfl
  · rw [if_neg (by rw [show (63 : Int) = vl 63 from rfl, vl_inj]; exact h1)]
    by_cases h2 : t.kind = 35
    · rw [if_pos (by rw [h2]; rfl), if_pos (c := t.kind = 63 ∨ t.kind = 35) (.inr h2)]
      cases t with
      | leaf a b c => obtain rfl := kind_leaf hw; exact absurd h2 (by simp only [Tm.kind]; decide)
      | bin a b c v u => exact absurd h2 (by rcases kind_bin hw with rfl | rfl <;> (simp only [Tm.kind]; decide))
      | un a b c v =>
        simp only [Tm.kind] at h2
        subst h2
        rw [text_35, show (1 : Int) = ((1 : Nat) : Int) from rfl, bt_at, if_pos (by rw [B_size]; simp; omega)]
        rfl
    · rw [if_neg (by rw [show (35 : Int) = vl 35 from rfl, vl_inj]; exact h2), if_neg (by rintro (h | h); exact h1 h; exact h2 h)]

end Go.Proofs.YtjgfgjhaghbehaaGreat.PsoPlace
namespace Go.Proofs.YtjgfgjhaghbehaaGreat.PsoPlace
open Go.RowKit Go.Proofs.YtjgfgjhaghbehaaGreatW.PrintWords Go.Proofs.YtjgfgjhaghbehaaGreatW.PrintLast Go.Proofs.YtjgfgjhaghbehaaGreatW.PrintMore
set_option linter.unusedVariables false
set_option linter.unusedSimpArgs false

theorem str_one (c : UInt8) : strOfNums [vl c] = B [c] := by simp [strOfNums, B, vl]
theorem cut_in {pre l : List UInt8} {c : UInt8} {x : Int} (hx : x = pre.length) :
    ((B (pre ++ l)).extract 0 x.toNat ++ strOfNums [vl c]) ++ (B (pre ++ l)).extract x.toNat (B (pre ++ l)).size = B (pre ++ c :: l) := by
  subst hx
  rw [str_one, B_size, B_extract, B_extract, List.take_length, B_append, B_append]
  simp
theorem add_l (s : List UInt8) (hs : s.length ≤ 100000000) (c : UInt8) (n : Nat) : ∀ (pre l : List UInt8) (k : Nat), s = pre ++ l → l.length ≤ n → n < k → spec_tmAdd.l0 k (B s) (vl c) (pre.length : Nat) = some (B (pre ++ insL c l)) := by
  have last : ∀ (pre l : List UInt8), s = pre ++ l → (if (pre.length : Int) ≤ ((B s).size : Int) then ((some (([vl c] : List Int) : List Int)).bind fun y134 => (if ((B s).extract 0 (pre.length : Int).toNat).size + (strOfNums y134).size ≤ 9223372036854775807 then (if (((B s).extract 0 (pre.length : Int).toNat) ++ (strOfNums y134)).size + ((B s).extract (pre.length : Int).toNat (B s).size).size ≤ 9223372036854775807 then (some ((((B s).extract 0 (pre.length : Int).toNat) ++ (strOfNums y134)) ++ ((B s).extract (pre.length : Int).toNat (B s).size))) else (none)) else (none))) else (none)) = some (B (pre ++ c :: l)) := by
    intro pre l h
    have hn := congrArg List.length h
    rw [List.length_append] at hn
    rw [if_pos (by rw [B_size]; omega), Option.bind_some]
    have h1 : ((B s).extract 0 (pre.length : Int).toNat).size ≤ s.length := by rw [ByteArray.size_extract, B_size]; omega
    have h2 : (strOfNums [vl c]).size = 1 := by rw [str_one]; exact B_size _
    have h3 : ((B s).extract (pre.length : Int).toNat (B s).size).size ≤ s.length := by rw [ByteArray.size_extract, B_size]; omega
    rw [if_pos (by rw [h2]; omega), if_pos (by rw [ByteArray.size_append, h2]; omega)]
    subst h
    rw [cut_in rfl]
  induction n with
  | zero =>
    intro pre l k h hl hk
    have : l = [] := List.length_eq_zero_iff.mp (by omega)
    subst this
    obtain ⟨k, rfl⟩ : ∃ m, k = m + 1 := ⟨k - 1, by omega⟩
    have hn := congrArg List.length h
    rw [List.length_append] at hn
    rw [spec_tmAdd.l0, if_neg (by rw [B_size, hn]; simp), if_pos (by omega)]
    exact last pre [] h
  | succ n ih =>
    intro pre l k h hl hk
    obtain ⟨k, rfl⟩ : ∃ m, k = m + 1 := ⟨k - 1, by omega⟩
    have hn := congrArg List.length h
    rw [List.length_append] at hn
    cases l with
    | nil =>
      rw [spec_tmAdd.l0, if_neg (by rw [B_size, hn]; simp), if_pos (by omega)]
      exact last pre [] h
    | cons d l =>
      simp only [List.length_cons] at hl hn
      have hat : At s pre.length (d :: l) := ⟨pre, h, rfl⟩
      have e := ih (pre ++ [d]) l k (by rw [h]; simp) (by omega) (by omega)
      rw [show (pre ++ [d]).length = pre.length + 1 from by simp] at e
      have w : wrap64 ((pre.length : Int) + 1) = (pre.length + 1 : Nat) := by rw [wrap_id (by omega) (by omega)]; omega
      rw [spec_tmAdd.l0, if_pos (by rw [B_size]; omega), if_pos (by omega), hat.bt _ 0 (by omega), at_cons_zero, w, e]
      rw [insL_cons]
      by_cases h1 : vl d < vl c
      · rw [if_pos h1, if_pos h1]; simp
      · rw [if_neg h1, if_neg h1]
        by_cases h2 : d = c
        · subst h2; rw [if_pos rfl, if_pos rfl, h]
        · rw [if_neg (by rw [vl_inj]; exact h2), if_neg h2]
          exact last pre (d :: l) h
theorem add_f (s : List UInt8) (hs : s.length ≤ 100000000) (c : UInt8) (k : Nat) (hk : s.length < k) : spec_tmAdd.f k (B s) (vl c) = some (B (insL c s)) :=
  add_l s hs c s.length [] s k rfl (Nat.le_refl _) hk

end Go.Proofs.YtjgfgjhaghbehaaGreat.PsoPlace
namespace Go.Proofs.YtjgfgjhaghbehaaGreat.PsoPlace
open Go.RowKit Go.Proofs.YtjgfgjhaghbehaaGreatW.PrintWords Go.Proofs.YtjgfgjhaghbehaaGreatW.PrintLast Go.Proofs.YtjgfgjhaghbehaaGreatW.PrintMore
set_option linter.unusedVariables false
set_option linter.unusedSimpArgs false

theorem both_l (t : List UInt8) (ht : t.length ≤ 1000000) (n : Nat) : ∀ (s : List UInt8) (i k : Nat) (l : List UInt8), At t i l → l.length ≤ n → s.length + n ≤ 10000000 → s.length + 2 * n + 2 ≤ k → spec_tmBoth.l0 k (B s) (B t) i = some (B (bothL s l)) := by
  induction n with
  | zero =>
    intro s i k l h hl hs hk
    have : l = [] := List.length_eq_zero_iff.mp (by omega)
    subst this
    obtain ⟨k, rfl⟩ : ∃ m, k = m + 1 := ⟨k - 1, by omega⟩
    rw [spec_tmBoth.l0, h.size, if_neg (by simp)]; rfl
  | succ n ih =>
    intro s i k l h hl hs hk
    obtain ⟨k, rfl⟩ : ∃ m, k = m + 1 := ⟨k - 1, by omega⟩
    cases l with
    | nil => rw [spec_tmBoth.l0, h.size, if_neg (by simp)]; rfl
    | cons d l =>
      have hz := h.size
      have hn := h.len
      simp only [List.length_cons] at hz hl hn
      have w : wrap64 ((i : Int) + 1) = (i + 1 : Nat) := by rw [wrap_id (by omega) (by omega)]; omega
      have hi := insL_len d s
      rw [spec_tmBoth.l0, if_pos (by omega), if_pos (by omega), h.bt i 0 (by omega), at_cons_zero, w, add_f s (by omega) d k (by omega), Option.bind_some]
      exact ih _ _ _ _ h.step (by omega) (by omega) (by omega)
theorem both_f (s t : List UInt8) (hs : s.length ≤ 1000000) (ht : t.length ≤ 1000000) (k : Nat) (hk : s.length + 2 * t.length + 2 ≤ k) : spec_tmBoth.f k (B s) (B t) = some (B (bothL s t)) :=
  both_l t ht t.length s 0 k t (At.start t) (Nat.le_refl _) (by omega) hk

end Go.Proofs.YtjgfgjhaghbehaaGreat.PsoPlace
namespace Go.Proofs.YtjgfgjhaghbehaaGreat.PsoPlace
open Go.RowKit Go.Proofs.YtjgfgjhaghbehaaGreatW.PrintWords Go.Proofs.YtjgfgjhaghbehaaGreatW.PrintLast Go.Proofs.YtjgfgjhaghbehaaGreatW.PrintMore
set_option linter.unusedVariables false
set_option linter.unusedSimpArgs false

theorem less_l (s : List UInt8) (hs : s.length ≤ 1000000) (c : UInt8) (n : Nat) : ∀ (out : List UInt8) (i k : Nat) (l : List UInt8), At s i l → l.length ≤ n → out.length ≤ i → n < k → spec_tmLess.l0 k (B s) (vl c) (B out) i = some (B (out ++ l.filter fun d => d != c)) := by
  induction n with
  | zero =>
    intro out i k l h hl ho hk
    have : l = [] := List.length_eq_zero_iff.mp (by omega)
    subst this
    obtain ⟨k, rfl⟩ : ∃ m, k = m + 1 := ⟨k - 1, by omega⟩
    rw [spec_tmLess.l0, h.size, if_neg (by simp)]; simp
  | succ n ih =>
    intro out i k l h hl ho hk
    obtain ⟨k, rfl⟩ : ∃ m, k = m + 1 := ⟨k - 1, by omega⟩
    cases l with
    | nil => rw [spec_tmLess.l0, h.size, if_neg (by simp)]; simp
    | cons d l =>
      have hz := h.size
      have hn := h.len
      simp only [List.length_cons] at hz hl hn
      have w : wrap64 ((i : Int) + 1) = (i + 1 : Nat) := by rw [wrap_id (by omega) (by omega)]; omega
      have hx : (B s).extract (i : Int).toNat ((i + 1 : Nat) : Int).toNat = B [d] := by
        obtain ⟨pre, rfl, rfl⟩ := h
        rw [B_extract, show ((pre.length : Int)).toNat = pre.length from rfl, show (((pre.length + 1 : Nat) : Int)).toNat = pre.length + 1 from rfl, List.take_append, List.drop_append, List.drop_eq_nil_of_le (by simp), List.nil_append]
        simp
      rw [spec_tmLess.l0, if_pos (by omega), if_pos (by omega), h.bt i 0 (by omega), at_cons_zero, w, hx]
      by_cases hc : d = c
      · subst hc
        rw [if_pos rfl, ih out (i + 1) k l h.step (by omega) (by omega) (by omega)]
        simp
      · rw [if_neg (by rw [vl_inj]; exact hc), if_pos (by omega), if_pos (by omega), if_pos (by rw [B_size, B_size]; simp; omega), B_append, ih (out ++ [d]) (i + 1) k l h.step (by omega) (by simp; omega) (by omega)]
        simp [hc]
theorem less_f (s : List UInt8) (hs : s.length ≤ 1000000) (c : UInt8) (k : Nat) (hk : s.length < k) : spec_tmLess.f k (B s) (vl c) = some (B (s.filter fun d => d != c)) := by
  have := less_l s hs c s.length [] 0 k s (At.start s) (Nat.le_refl _) (Nat.le_refl _) hk
  rw [List.nil_append] at this
  exact this

end Go.Proofs.YtjgfgjhaghbehaaGreat.PsoPlace
namespace Go.Proofs.YtjgfgjhaghbehaaGreat.PsoPlace
open Go.RowKit Go.Proofs.YtjgfgjhaghbehaaGreatW.PrintWords Go.Proofs.YtjgfgjhaghbehaaGreatW.PrintLast Go.Proofs.YtjgfgjhaghbehaaGreatW.PrintMore
set_option linter.unusedVariables false
set_option linter.unusedSimpArgs false

theorem bt0 (l : List UInt8) : bt (B l) 0 = at_ l 0 := bt_at l 0
theorem bt1 (l : List UInt8) : bt (B l) 1 = at_ l 1 := bt_at l 1
theorem bt2 (l : List UInt8) : bt (B l) 2 = at_ l 2 := bt_at l 2
theorem bt3 (l : List UInt8) : bt (B l) 3 = at_ l 3 := bt_at l 3
theorem add_s (p : UInt8 → Bool) {c : UInt8} (hc : isLet c = true) {k : Nat} (hk : 30 ≤ k) : spec_tmAdd.f k (B (sortL p)) (vl c) = some (B (sortL (orS p (eqS c)))) := by
  have := sort_len p
  rw [add_f _ (by omega) c k (by omega), ins_sort p hc]
theorem less_s (p : UInt8 → Bool) (c : UInt8) {k : Nat} (hk : 30 ≤ k) : spec_tmLess.f k (B (sortL p)) (vl c) = some (B (sortL (minusS p (eqS c)))) := by
  have := sort_len p
  rw [less_f _ (by omega) c k (by omega), sort_less]
theorem both_s (p q : UInt8 → Bool) {k : Nat} (hk : 100 ≤ k) : spec_tmBoth.f k (B (sortL p)) (B (sortL q)) = some (B (sortL (orS p q))) := by
  have := sort_len p
  have := sort_len q
  rw [both_f _ _ (by omega) (by omega) k (by omega), sort_both]

theorem fre_step (k : Nat) (t : Tm) (hw : Wf nameB t) (hl : t.text.length ≤ 1000000) (hk : t.size + 2 ≤ k) :
    spec_tmFree.f (k + 1) (B t.text) = spec_tmFree.l0 k (B t.text) (B (sortL noS)) (t.kids.map fun u => B u.text) (t.kids.length : Int) 0 := by
  rw [spec_tmFree.f, parts_text hw hl hk, Option.bind_some, List.length_map, sort_no]; rfl
theorem fre_round {k : Nat} {s : ByteArray} {p q : UInt8 → Bool} (hk : 100 ≤ k)
    {xs : List ByteArray} {i : Nat} {n : Int} (hn : n = xs.length) (hi : i < xs.length) (hlen : xs.length ≤ 1000000) {u : ByteArray} (hx : xs.getD i ByteArray.empty = u) (h : spec_tmFree.f k u = some (B (sortL q))) :
    spec_tmFree.l0 (k + 1) s (B (sortL p)) xs n i = spec_tmFree.l0 k s (B (sortL (orS p q))) xs n ((i + 1 : Nat) : Int) := by
  subst hn
  rw [spec_tmFree.l0, if_pos (by omega), if_pos (by omega), if_pos (by omega), show rdOf ByteArray.empty xs (i : Int) = xs.getD i ByteArray.empty from rfl, hx, h, Option.bind_some, both_s p q hk, Option.bind_some, wrap_id (x := (i : Int) + 1) (by omega) (by omega)]
  rfl
theorem orS_assoc (p q r : UInt8 → Bool) : orS (orS p q) r = orS p (orS q r) := by funext c; simp [orS, Bool.or_assoc]
theorem fre_end {k : Nat} {t : Tm} (hw : Wf isLet t) (hl : t.text.length ≤ 1000000) (hk : t.size + 100 ≤ k) {xs : List ByteArray} {i : Nat} {n : Int} (hn : n = i) :
    spec_tmFree.l0 (k + 2) (B t.text) (B (sortL (frs t.kids))) xs n i = some (B (sortL t.fr)) := by
  have hwn := Wf.names (fun c => let_name) hw
  have hbn := binds_text hwn hl (show t.size + 1 ≤ k + 1 by omega)
  have hj : ∀ s, spec_tmFree.j1 (k + 1) (B t.text) s = _ := fun s => by rw [spec_tmFree.j1, kind_text hwn hl (by omega), Option.bind_some]
  rw [spec_tmFree.l0, if_neg (by omega)]
  cases t with
  | leaf sk a b =>
    obtain rfl := kind_leaf hw
    have hb2 : spec_tmBinds.f (k + 1) (B (Tm.leaf 48 a b).text) = some (0, false) := hbn
    rw [hb2, Option.bind_some, if_neg (by decide), hj]
    rfl
  | un sk a b t =>
    have e : frs (Tm.un sk a b t).kids = t.fr := by simp [frs, Tm.kids, orS_no]
    rw [e]
    rcases hw.1 with ⟨hkk, ha, hb⟩ | ⟨rfl, _, hb⟩ | ⟨hkk, _, _⟩
    · rcases hkk with rfl | rfl | rfl
      · have hb2 : spec_tmBinds.f (k + 1) (B (Tm.un 33 a b t).text) = some (0, false) := hbn
        rw [hb2, Option.bind_some, if_neg (by decide), hj, if_pos (by rfl), text_33, bt0, bt2, if_pos (by rw [B_size]; simp; omega), at_cons_zero, add_s _ ha (by omega), Option.bind_some, if_pos (by rw [B_size]; simp; omega), at_cons_succ, at_cons_succ, at_cons_zero, add_s _ hb (by omega), Option.bind_some, orS_assoc]
        rfl
      · have hb2 : spec_tmBinds.f (k + 1) (B (Tm.un 63 a b t).text) = some (vl b, true) := hbn
        rw [hb2, Option.bind_some, if_pos rfl, less_s _ _ (by omega), Option.bind_some, hj, if_neg (by simp only [Tm.kind]; decide), if_pos (by rfl), text_63, bt0, if_pos (by rw [B_size]; simp; omega), at_cons_zero, add_s _ ha (by omega), Option.bind_some]
        rfl
      · have hb2 : spec_tmBinds.f (k + 1) (B (Tm.un 61 a b t).text) = some (0, false) := hbn
        rw [hb2, Option.bind_some, if_neg (by decide), hj, if_neg (by simp only [Tm.kind]; decide), if_neg (by simp only [Tm.kind]; decide), if_pos (by rfl), text_61, bt1, bt3, if_pos (by rw [B_size]; simp; omega), at_cons_succ, at_cons_zero, add_s _ ha (by omega), Option.bind_some, if_pos (by rw [B_size]; simp; omega), at_cons_succ, at_cons_succ, at_cons_succ, at_cons_zero, add_s _ hb (by omega), Option.bind_some, orS_assoc]
        rfl
    · have hb2 : spec_tmBinds.f (k + 1) (B (Tm.un 35 a b t).text) = some (vl b, true) := hbn
      rw [hb2, Option.bind_some, if_pos rfl, less_s _ _ (by omega), Option.bind_some, hj, if_neg (by simp only [Tm.kind]; decide), if_neg (by simp only [Tm.kind]; decide), if_neg (by simp only [Tm.kind]; decide)]
      rfl
    · rcases hkk with rfl | rfl
      · have hb2 : spec_tmBinds.f (k + 1) (B (Tm.un 42 a b t).text) = some (0, false) := hbn
        rw [hb2, Option.bind_some, if_neg (by decide), hj, if_neg (by simp only [Tm.kind]; decide), if_neg (by simp only [Tm.kind]; decide), if_neg (by simp only [Tm.kind]; decide)]
        rfl
      · have hb2 : spec_tmBinds.f (k + 1) (B (Tm.un 126 a b t).text) = some (0, false) := hbn
        rw [hb2, Option.bind_some, if_neg (by decide), hj, if_neg (by simp only [Tm.kind]; decide), if_neg (by simp only [Tm.kind]; decide), if_neg (by simp only [Tm.kind]; decide)]
        rfl
  | bin sk a b t u =>
    have e : frs (Tm.bin sk a b t u).kids = orS t.fr u.fr := by simp [frs, Tm.kids, orS_no]
    rw [e]
    rcases kind_bin hw with rfl | rfl
    · have hb2 : spec_tmBinds.f (k + 1) (B (Tm.bin 43 a b t u).text) = some (0, false) := hbn
      rw [hb2, Option.bind_some, if_neg (by decide), hj, if_neg (by simp only [Tm.kind]; decide), if_neg (by simp only [Tm.kind]; decide), if_neg (by simp only [Tm.kind]; decide)]
      rfl
    · have hb2 : spec_tmBinds.f (k + 1) (B (Tm.bin 38 a b t u).text) = some (0, false) := hbn
      rw [hb2, Option.bind_some, if_neg (by decide), hj, if_neg (by simp only [Tm.kind]; decide), if_neg (by simp only [Tm.kind]; decide), if_neg (by simp only [Tm.kind]; decide)]
      rfl

theorem frees_text (t : Tm) : ∀ k, Wf isLet t → t.text.length ≤ 1000000 → 6 * t.size + 120 ≤ k → spec_tmFree.f k (B t.text) = some (B (sortL t.fr)) := by
  induction t with
  | leaf sk a b =>
    intro k hw hl hk
    simp only [Tm.size] at hk
    obtain ⟨k, rfl⟩ : ∃ m, k = m + 3 := ⟨k - 3, by omega⟩
    rw [fre_step (k + 2) _ (Wf.names (fun c => let_name) hw) hl (by simp only [Tm.size]; omega)]
    exact fre_end (t := .leaf sk a b) (i := 0) hw hl (by simp only [Tm.size]; omega) rfl
  | un sk a b t ih =>
    intro k hw hl hk
    simp only [Tm.size] at hk
    have hl2 : t.text.length ≤ 1000000 := by simp only [Tm.text, List.length_append] at hl; omega
    obtain ⟨k, rfl⟩ : ∃ m, k = m + 4 := ⟨k - 4, by omega⟩
    rw [fre_step (k + 3) _ (Wf.names (fun c => let_name) hw) hl (by simp only [Tm.size]; omega)]
    refine (fre_round (k := k + 2) (xs := [B t.text]) (i := 0) (by omega) rfl (by simp) (by simp) rfl (ih (k + 2) hw.2 hl2 (by omega))).trans ?_
    exact fre_end (t := .un sk a b t) (i := 1) hw hl (by simp only [Tm.size]; omega) rfl
  | bin sk a b t u ih1 ih2 =>
    intro k hw hl hk
    simp only [Tm.size] at hk
    have hl' := hl
    simp only [Tm.text, List.length_cons, List.length_append] at hl'
    obtain ⟨k, rfl⟩ : ∃ m, k = m + 5 := ⟨k - 5, by omega⟩
    rw [fre_step (k + 4) _ (Wf.names (fun c => let_name) hw) hl (by simp only [Tm.size]; omega)]
    refine (fre_round (k := k + 3) (xs := [B t.text, B u.text]) (i := 0) (by omega) rfl (by simp) (by simp) rfl (ih1 (k + 3) hw.2.2.2.1 (by omega) (by omega))).trans ?_
    refine (fre_round (k := k + 2) (xs := [B t.text, B u.text]) (i := 1) (by omega) rfl (by simp) (by simp) rfl (ih2 (k + 2) hw.2.2.2.2 (by omega) (by omega))).trans ?_
    exact fre_end (t := .bin sk a b t u) (i := 2) hw hl (by simp only [Tm.size]; omega) rfl

end Go.Proofs.YtjgfgjhaghbehaaGreat.PsoPlace
