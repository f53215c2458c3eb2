/- The reference's subterm at a path, at a term's text. -/
import Derived.Test.YtjinjanjjecmiaaRefsReplaceAt
import Derived.Test.YtjinjanjjecmiaaAtW
namespace Go.Proofs.Ytjinjanjjecmiaa.PReplaceAt
open Go.RowKit Go.Proofs.YtjinjanjjecmiaaW.PrintWords Go.Proofs.YtjinjanjjecmiaaW.PrintLast Go.Proofs.YtjinjanjjecmiaaW.PrintMore
set_option linter.unusedVariables false
set_option linter.unusedSimpArgs false

theorem kid_text (t : Tm) (i : Nat) (h : i < t.kids.length) : t.kids[i].text.length ≤ t.text.length := by
  cases t with
  | leaf => simp [Tm.kids] at h
  | un => simp [Tm.kids] at h; subst h; simp [Tm.kids, Tm.text]
  | bin => simp [Tm.kids] at h; rcases (by omega : i = 0 ∨ i = 1) with rfl | rfl <;> simp [Tm.kids, Tm.text] <;> omega
theorem kidw {P : UInt8 → Bool} {t : Tm} (h : Wf P t) (i : Nat) (hi : i < t.kids.length) : Wf P t.kids[i] := by
  cases t with
  | leaf => simp [Tm.kids] at hi
  | un => simp [Tm.kids] at hi; subst hi; exact h.2
  | bin => simp [Tm.kids] at hi; rcases (by omega : i = 0 ∨ i = 1) with rfl | rfl
           · exact h.2.2.2.1
           · exact h.2.2.2.2
theorem sub_wf {P : UInt8 → Bool} (l : List UInt8) : ∀ {t u : Tm}, Wf P t → t.sub l = some u → Wf P u ∧ u.text.length ≤ t.text.length ∧ u.size ≤ t.size := by
  induction l with
  | nil => intro t u h e; simp only [Tm.sub, Option.some.injEq] at e; subst e; exact ⟨h, Nat.le_refl _, Nat.le_refl _⟩
  | cons c l ih =>
    intro t u h e
    rw [Tm.sub] at e
    split at e
    · rename_i hc
      obtain ⟨h1, h2, h3⟩ := ih (kidw h _ hc.2) e
      have := kid_text t _ hc.2
      have := kid_le t _ hc.2
      exact ⟨h1, by omega, by omega⟩
    · cases e

def subRes (o : Option Tm) : ByteArray × Bool := match o with | some u => (B u.text, true) | none => (B [], false)
theorem at_text (path : List UInt8) (hp : path.length ≤ 100000000) (l : List UInt8) : ∀ (t : Tm) (i k : Nat), At path i l → Wf nameB t → t.text.length ≤ 1000000 → l.length + t.size + 5 ≤ k →
    spec_tmAt.l0 k (B t.text) (B path) i = some (subRes (t.sub l)) := by
  induction l with
  | nil =>
    intro t i k h hw hl hk
    obtain ⟨k, rfl⟩ : ∃ m, k = m + 1 := ⟨k - 1, by omega⟩
    rw [spec_tmAt.l0, h.size, if_neg (by simp)]; rfl
  | cons c l ih =>
    intro t i k h hw hl hk
    simp only [List.length_cons] at hk
    obtain ⟨k, rfl⟩ : ∃ m, k = m + 1 := ⟨k - 1, by omega⟩
    have hz := h.size
    have hn := h.len
    simp only [List.length_cons] at hz hn
    have w : wrap64 ((i : Int) + 1) = (i + 1 : Nat) := by rw [wrap_id (by omega) (by omega)]; omega
    obtain ⟨v0, v1⟩ := vl_range c
    have w2 : wrap64 (vl c) = vl c := wrap_id (by omega) (by omega)
    have w3 : wrap64 (vl c - 48) = vl c - 48 := wrap_id (by omega) (by omega)
    have hv : vl c = (c.toNat : Int) := rfl
    have hlen : (List.map (fun u : Tm => B u.text) t.kids).length = t.kids.length := List.length_map _
    rw [spec_tmAt.l0, if_pos (by omega), parts_text hw hl (by omega), Option.bind_some, if_pos (by omega), h.bt i 0 (by omega), at_cons_zero, w2, w3, w, hlen, Tm.sub]
    by_cases h1 : vl c - 48 < 0
    · rw [if_pos h1, dif_neg (by omega)]; rfl
    · rw [if_neg h1]
      by_cases h2 : vl c - 48 ≥ (t.kids.length : Int)
      · rw [if_pos h2, dif_neg (by omega)]; rfl
      · have hj : c.toNat - 48 < t.kids.length := by omega
        rw [if_neg h2, if_pos (by omega), if_pos (by omega), dif_pos ⟨by omega, hj⟩]
        have e : rdOf ByteArray.empty (List.map (fun u : Tm => B u.text) t.kids) (vl c - 48) = B (t.kids[c.toNat - 48]'hj).text := by
          unfold rdOf
          rw [show (vl c - 48).toNat = c.toNat - 48 from by omega, List.getD_eq_getElem?_getD, List.getElem?_map, List.getElem?_eq_getElem hj]; rfl
        have := kid_text t _ hj
        have := kid_le t _ hj
        rw [e, ih _ (i + 1) k h.step (kidw hw _ hj) (by omega) (by omega)]

end Go.Proofs.Ytjinjanjjecmiaa.PReplaceAt
