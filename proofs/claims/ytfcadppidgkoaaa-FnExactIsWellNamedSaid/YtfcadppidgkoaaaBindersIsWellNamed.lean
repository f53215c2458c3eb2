/- The reference's bound names in order, at a term's text. -/
import Derived.Test.YtfcadppidgkoaaaBindsIsWellNamed
import Derived.Test.YtfcadppidgkoaaaSets
namespace Go.Proofs.Ytfcadppidgkoaaa.PIsWellNamed
open Go.RowKit Go.Proofs.YtfcadppidgkoaaaW.PrintWords Go.Proofs.YtfcadppidgkoaaaW.PrintLast Go.Proofs.YtfcadppidgkoaaaW.PrintMore
set_option linter.unusedVariables false
set_option linter.unusedSimpArgs false

theorem strOf_one (c : UInt8) : strOfNums [vl c] = B [c] := by simp [strOfNums, B, vl]
theorem bnd_step (k : Nat) (t : Tm) (hw : Wf nameB t) (hl : t.text.length ≤ 1000000) (hk : t.size + 2 ≤ k) :
    spec_tmBinders.f (k + 2) (B t.text) = spec_tmBinders.l0 k (B (bndOf t.kind t.nb)) (t.kids.map fun u => B u.text) (t.kids.length : Int) 0 := by
  rw [spec_tmBinders.f, binds_text hw hl (by omega), Option.bind_some]
  unfold bndOf
  by_cases h : t.kind = 63 ∨ t.kind = 35
  · simp only [if_pos h, if_true, strOf_one]
    rw [spec_tmBinders.j0, parts_text hw hl (by omega), Option.bind_some, List.length_map]
  · simp only [if_neg h]
    rw [if_neg (by decide), spec_tmBinders.j0, parts_text hw hl (by omega), Option.bind_some, List.length_map]; rfl
theorem bnd_round {k : Nat} {p q : List UInt8} (hp : p.length ≤ 10000000) (hq : q.length ≤ 10000000)
    {xs : List ByteArray} {i : Nat} {n : Int} (hn : n = xs.length) (hi : i < xs.length) (hlen : xs.length ≤ 1000000) {u : ByteArray} (hx : xs.getD i ByteArray.empty = u) (h : spec_tmBinders.f k u = some (B q)) :
    spec_tmBinders.l0 (k + 1) (B p) xs n i = spec_tmBinders.l0 k (B (p ++ q)) xs n ((i + 1 : Nat) : Int) := by
  subst hn
  rw [spec_tmBinders.l0, if_pos (by omega), if_pos (by omega), if_pos (by omega), show rdOf ByteArray.empty xs (i : Int) = xs.getD i ByteArray.empty from rfl, hx, h, Option.bind_some, if_pos (by rw [B_size, B_size]; omega), B_append, wrap_id (x := (i : Int) + 1) (by omega) (by omega)]
  rfl
theorem bnd_end {k : Nat} {x : ByteArray} {xs : List ByteArray} {i : Nat} {n : Int} (hn : n = xs.length) (hi : i = xs.length) : spec_tmBinders.l0 (k + 1) x xs n i = some x := by
  subst hn; subst hi
  rw [spec_tmBinders.l0, if_neg (by omega)]
theorem bnd_len (k b : UInt8) : (bndOf k b).length ≤ 1 := by unfold bndOf; split <;> simp

theorem binders_text (t : Tm) : ∀ k, Wf nameB t → t.text.length ≤ 1000000 → 6 * t.size + 10 ≤ k → spec_tmBinders.f k (B t.text) = some (B t.binders) := by
  induction t with
  | leaf sk a b =>
    intro k hw hl hk
    simp only [Tm.size] at hk
    obtain rfl := kind_leaf hw
    obtain ⟨k, rfl⟩ : ∃ m, k = m + 3 := ⟨k - 3, by omega⟩
    rw [bnd_step (k + 1) _ hw hl (by simp only [Tm.size]; omega)]
    exact bnd_end (xs := []) (i := 0) rfl rfl
  | un sk a b t ih =>
    intro k hw hl hk
    simp only [Tm.size] at hk
    have hl2 : t.text.length ≤ 1000000 := by simp only [Tm.text, List.length_append] at hl; omega
    have h1 := bnd_len sk b
    have h2 := binders_len t
    have h3 := size_le_text t
    obtain ⟨k, rfl⟩ : ∃ m, k = m + 4 := ⟨k - 4, by omega⟩
    rw [bnd_step (k + 2) _ hw hl (by simp only [Tm.size]; omega)]
    refine (bnd_round (k := k + 1) (p := bndOf sk b) (xs := [B t.text]) (i := 0) (by omega) (by omega) rfl (by simp) (by simp) rfl (ih (k + 1) hw.2 hl2 (by omega))).trans ?_
    exact bnd_end (i := 1) rfl rfl
  | bin sk a b t u ih1 ih2 =>
    intro k hw hl hk
    simp only [Tm.size] at hk
    have hl' := hl
    simp only [Tm.text, List.length_cons, List.length_append] at hl'
    have h2 := binders_len t
    have h3 := size_le_text t
    have h4 := binders_len u
    have h5 := size_le_text u
    obtain ⟨k, rfl⟩ : ∃ m, k = m + 5 := ⟨k - 5, by omega⟩
    rw [bnd_step (k + 3) _ hw hl (by simp only [Tm.size]; omega)]
    have e0 : bndOf (Tm.bin sk a b t u).kind (Tm.bin sk a b t u).nb = [] := by rcases kind_bin hw with rfl | rfl <;> rfl
    rw [e0]
    refine (bnd_round (k := k + 2) (p := []) (xs := [B t.text, B u.text]) (i := 0) (by simp) (by omega) rfl (by simp) (by simp) rfl (ih1 (k + 2) hw.2.2.2.1 (by omega) (by omega))).trans ?_
    refine (bnd_round (k := k + 1) (p := [] ++ t.binders) (xs := [B t.text, B u.text]) (i := 1) (by simp; omega) (by omega) rfl (by simp) (by simp) rfl (ih2 (k + 1) hw.2.2.2.2 (by omega) (by omega))).trans ?_
    rw [List.nil_append]
    exact bnd_end (i := 2) rfl rfl

end Go.Proofs.Ytfcadppidgkoaaa.PIsWellNamed
