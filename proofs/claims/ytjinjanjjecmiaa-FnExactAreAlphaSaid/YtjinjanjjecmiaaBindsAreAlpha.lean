/- The name that a sign binds: the reference's, at a term's text. -/
import Derived.Test.YtjinjanjjecmiaaRefsAreAlpha
import Derived.Test.YtjinjanjjecmiaaBase
namespace Go.Proofs.Ytjinjanjjecmiaa.PAreAlpha
open Go.RowKit Go.Proofs.YtjinjanjjecmiaaW.PrintWords Go.Proofs.YtjinjanjjecmiaaW.PrintLast Go.Proofs.YtjinjanjjecmiaaW.PrintMore
set_option linter.unusedVariables false
set_option linter.unusedSimpArgs false

/-- Byte j of a text. -/
theorem bt_at (l : List UInt8) (j : Nat) : bt (B l) (j : Int) = at_ l j := by rw [bt_B]; rfl
theorem text_33 (a b : UInt8) (t : Tm) : (Tm.un 33 a b t).text = a :: 33 :: b :: 46 :: t.text := rfl
theorem text_63 (a b : UInt8) (t : Tm) : (Tm.un 63 a b t).text = a :: 63 :: b :: 46 :: t.text := rfl
theorem text_61 (a b : UInt8) (t : Tm) : (Tm.un 61 a b t).text = 91 :: a :: 61 :: b :: 93 :: t.text := rfl
theorem text_35 (a b : UInt8) (t : Tm) : (Tm.un 35 a b t).text = 35 :: b :: 46 :: t.text := rfl
theorem binds_text {t : Tm} {k : Nat} (hw : Wf nameB t) (hl : t.text.length ≤ 1000000) (hk : t.size + 1 ≤ k) :
    spec_tmBinds.f k (B t.text) = some (if t.kind = 63 ∨ t.kind = 35 then (vl t.nb, true) else (0, false)) := by
  rw [spec_tmBinds.f, kind_text hw hl hk, Option.bind_some]
  by_cases h1 : t.kind = 63
  · rw [if_pos (by rw [h1]; rfl), if_pos (c := t.kind = 63 ∨ t.kind = 35) (.inl h1)]
    cases t with
    | leaf a b c => obtain rfl := kind_leaf hw; exact absurd h1 (by simp only [Tm.kind]; decide)
    | bin a b c v u => exact absurd h1 (by rcases kind_bin hw with rfl | rfl <;> (simp only [Tm.kind]; decide))
    | un a b c v =>
      simp only [Tm.kind] at h1
      subst h1
      rw [text_63, show (2 : Int) = ((2 : Nat) : Int) from rfl, bt_at, if_pos (by rw [B_size]; simp; omega)]
      rfl
  · rw [if_neg (by rw [show (63 : Int) = vl 63 from rfl, vl_inj]; exact h1)]
    by_cases h2 : t.kind = 35
    · rw [if_pos (by rw [h2]; rfl), if_pos (c := t.kind = 63 ∨ t.kind = 35) (.inr h2)]
      cases t with
      | leaf a b c => obtain rfl := kind_leaf hw; exact absurd h2 (by simp only [Tm.kind]; decide)
      | bin a b c v u => exact absurd h2 (by rcases kind_bin hw with rfl | rfl <;> (simp only [Tm.kind]; decide))
      | un a b c v =>
        simp only [Tm.kind] at h2
        subst h2
        rw [text_35, show (1 : Int) = ((1 : Nat) : Int) from rfl, bt_at, if_pos (by rw [B_size]; simp; omega)]
        rfl
    · rw [if_neg (by rw [show (35 : Int) = vl 35 from rfl, vl_inj]; exact h2), if_neg (by rintro (h | h); exact h1 h; exact h2 h)]

end Go.Proofs.Ytjinjanjjecmiaa.PAreAlpha
