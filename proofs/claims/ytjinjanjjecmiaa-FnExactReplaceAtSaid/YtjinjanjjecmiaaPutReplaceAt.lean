/- The reference's tmWith and tmPut, at a term's text. -/
import Derived.Test.YtjinjanjjecmiaaSubReplaceAt
import Derived.Test.YtjinjanjjecmiaaPutP
namespace Go.Proofs.Ytjinjanjjecmiaa.PReplaceAt
open Go.RowKit Go.Proofs.YtjinjanjjecmiaaW.PrintWords Go.Proofs.YtjinjanjjecmiaaW.PrintLast Go.Proofs.YtjinjanjjecmiaaW.PrintMore
set_option linter.unusedVariables false
set_option linter.unusedSimpArgs false

theorem un_text (k a b : UInt8) (t : Tm) : ∃ hd : List UInt8, hd.length = headLen k ∧ ∀ u : Tm, (Tm.un k a b u).text = hd ++ u.text := by
  by_cases h1 : k = 35
  · exact ⟨[35, b, 46], by subst h1; rfl, fun u => by simp [Tm.text, h1]⟩
  by_cases h2 : k = 61
  · exact ⟨[91, a, 61, b, 93], by subst h2; rfl, fun u => by simp [Tm.text, h2]⟩
  by_cases h3 : k = 42
  · exact ⟨[42], by subst h3; rfl, fun u => by simp [Tm.text, h3]⟩
  by_cases h4 : k = 126
  · exact ⟨[126, 46], by subst h4; rfl, fun u => by simp [Tm.text, h4]⟩
  · exact ⟨[a, k, b, 46], by simp [headLen, h1, h2, h3, h4], fun u => by simp [Tm.text, h1, h2, h3, h4]⟩
theorem un_kind {P : UInt8 → Bool} {k a b : UInt8} {t : Tm} (h : Wf P (.un k a b t)) : k ≠ 48 ∧ k ≠ 43 ∧ k ≠ 38 := by
  rcases h.1 with ⟨h, _⟩ | ⟨h, _⟩ | ⟨h, _⟩
  · rcases h with rfl | rfl | rfl <;> decide
  · subst h; decide
  · rcases h with rfl | rfl <;> decide
theorem rdOf_at {α : Type} {d x : α} {l : List α} {i : Nat} (h : l[i]? = some x) : rdOf d l (i : Int) = x := by
  unfold rdOf; simp [List.getD, h]
theorem with_un {k a b : UInt8} {t u : Tm} {f : Nat} (hw : Wf nameB (.un k a b t)) (hl : (Tm.un k a b t).text.length ≤ 1000000) (hu : u.text.length ≤ 1000000) (hf : (Tm.un k a b t).size + 2 ≤ f) :
    spec_tmWith.f f (B (Tm.un k a b t).text) [B u.text] = some (B (Tm.un k a b u).text) := by
  obtain ⟨n1, n2, n3⟩ := un_kind hw
  obtain ⟨hd, h1, h2⟩ := un_text k a b t
  have hk := kind_text (k := f) hw hl (by omega)
  have hh := head_text (k := f) hw hl (by omega)
  rw [if_neg (show ¬ ((Tm.un k a b t).kind = 43 ∨ (Tm.un k a b t).kind = 38) from by rintro (h | h); exact n2 h; exact n3 h)] at hh
  simp only [Tm.kind] at hk hh
  have e48 : ¬ vl k = 48 := by rw [e48]; exact n1
  have e43 : ¬ vl k = 43 := by rw [e43]; exact n2
  have e38 : ¬ vl k = 38 := by rw [e38]; exact n3
  have hlen := congrArg List.length (h2 t)
  rw [List.length_append] at hlen
  have r0 : rdOf ByteArray.empty [B u.text] 0 = B u.text := rfl
  have hex : (B (Tm.un k a b t).text).extract 0 ((headLen k : Nat) : Int).toNat = B hd := by
    rw [B_extract, h2 t, Int.toNat_natCast, ← h1]
    simp
  unfold spec_tmWith.f
  rw [hk, Option.bind_some, if_neg e48, if_neg e43, if_neg e38, hh, Option.bind_some, r0, hex]
  rw [if_pos (by omega), if_pos (by rw [B_size]; omega), if_pos (by simp), if_pos (by rw [B_size, B_size]; omega), B_append, ← h2 u]
theorem with_bin {k a b : UInt8} {t1 t2 u v : Tm} {f : Nat} (hw : Wf nameB (.bin k a b t1 t2)) (hl : (Tm.bin k a b t1 t2).text.length ≤ 1000000) (hu : u.text.length ≤ 1000000) (hv : v.text.length ≤ 1000000) (hf : (Tm.bin k a b t1 t2).size + 2 ≤ f) :
    spec_tmWith.f f (B (Tm.bin k a b t1 t2).text) [B u.text, B v.text] = some (B (Tm.bin k a b u v).text) := by
  have hk := kind_text (k := f) hw hl (by omega)
  simp only [Tm.kind] at hk
  have r0 : rdOf ByteArray.empty [B u.text, B v.text] 0 = B u.text := rfl
  have r1 : rdOf ByteArray.empty [B u.text, B v.text] 1 = B v.text := rfl
  have s40 : (⟨#[40]⟩ : ByteArray).size = 1 := rfl
  have s43 : (⟨#[43]⟩ : ByteArray).size = 1 := rfl
  have s38 : (⟨#[38]⟩ : ByteArray).size = 1 := rfl
  unfold spec_tmWith.f
  rw [hk, Option.bind_some]
  simp only [r0, r1, ByteArray.size_append, B_size, s40, s43, s38, List.length_cons, List.length_nil]
  rcases hw.1 with rfl | rfl
  · rw [if_neg (by decide), if_pos (by decide), if_pos (by omega), if_pos (by omega), if_pos (by omega), if_pos (by omega), if_pos (by omega), if_pos (by omega)]
    rw [show (⟨#[40]⟩ : ByteArray) = B [40] from rfl, show (⟨#[43]⟩ : ByteArray) = B [43] from rfl, show (⟨#[41]⟩ : ByteArray) = B [41] from rfl]
    simp only [B_append]
    congr 2
    simp [Tm.text]
  · rw [if_neg (by decide), if_neg (by decide), if_pos (by decide), if_pos (by omega), if_pos (by omega), if_pos (by omega), if_pos (by omega), if_pos (by omega), if_pos (by omega)]
    rw [show (⟨#[40]⟩ : ByteArray) = B [40] from rfl, show (⟨#[38]⟩ : ByteArray) = B [38] from rfl, show (⟨#[41]⟩ : ByteArray) = B [41] from rfl]
    simp only [B_append]
    congr 2
    simp [Tm.text]
theorem kid_txl (t : Tm) (i : Nat) (h : i < t.kids.length) : t.kids[i].text.length ≤ t.text.length ∧ t.kids[i].size < t.size := by
  cases t with
  | leaf => simp [Tm.kids] at h
  | un => simp [Tm.kids] at h; subst h; exact ⟨by simp [Tm.kids, Tm.text], by simp [Tm.kids, Tm.size]⟩
  | bin => simp [Tm.kids] at h; rcases (by omega : i = 0 ∨ i = 1) with rfl | rfl <;> exact ⟨by simp [Tm.kids, Tm.text]; omega, by simp [Tm.kids, Tm.size]; omega⟩
theorem put_text (q : Tm) (path : List UInt8) : ∀ (t : Tm) (f : Nat), (t.sub path).isSome = true → Wf nameB t → t.text.length + q.text.length ≤ 1000000 → path.length + t.size + 10 ≤ f → path.length ≤ 1000000 →
    spec_tmPut.f f (B t.text) (B path) (B q.text) = some (B (putT q path t).text) := by
  induction path with
  | nil =>
    intro t f _ _ _ hf _
    obtain ⟨f, rfl⟩ : ∃ m, f = m + 1 := ⟨f - 1, by omega⟩
    have e : (B ([] : List UInt8)).toList = ([] : List UInt8) := by rw [B_toList]
    rw [spec_tmPut.f, if_pos e]; exact congrArg (fun x => some (B x.text)) (show q = putT q [] t from by cases t <;> rfl)
  | cons c l ih =>
    intro t f hs hw hl hf hpl
    obtain ⟨f, rfl⟩ : ∃ m, f = m + 1 := ⟨f - 1, by omega⟩
    obtain ⟨j, hj, hcj, hj2, hsub⟩ := sub_step hs
    have hkl : t.kids.length ≤ 2 := by cases t <;> simp [Tm.kids]
    simp only [List.length_cons] at hf hpl
    obtain ⟨ht1, ht2⟩ := kid_txl t j hj
    have hp := parts_text (t := t) (k := f) hw (by omega) (by omega)
    have hvc : bt (B (c :: l)) 0 = (j : Int) + 48 := by
      rw [bt_B]; show vl c = _; unfold vl; omega
    have hw1 : wrap64 (wrap64 ((j : Int) + 48) - 48) = (j : Int) := by rw [wrap_id (x := (j : Int) + 48) (by omega) (by omega), wrap_id (by omega) (by omega)]; omega
    have hr : rdOf ByteArray.empty (([] : List ByteArray) ++ t.kids.map fun u => B u.text) (j : Int) = B t.kids[j].text := rdOf_at (by simp [List.getElem?_eq_getElem hj])
    have hex : (B (c :: l)).extract 1 (B (c :: l)).size = B l := by rw [B_extract]; simp [B_size]
    have hi := ih t.kids[j] f hsub (kidw hw j hj) (by omega) (by omega) (by omega)
    have hpu := put_len q l t.kids[j]
    have hA : (([] : List ByteArray) ++ t.kids.map fun u => B u.text).length = t.kids.length := by simp
    have hB : (B (c :: l)).size = l.length + 1 := by rw [B_size]; rfl
    have c3 : (0 : Int) ≤ (j : Int) := Int.natCast_nonneg j
    have c4 : (j : Int) < ((([] : List ByteArray) ++ t.kids.map fun u => B u.text).length : Int) := by rw [hA]; exact Int.ofNat_lt.mpr hj
    have c2 : (0 : Int) < ((B (c :: l)).size : Int) := by rw [hB]; exact Int.natCast_pos.mpr (Nat.succ_pos _)
    have c5 : (1 : Int) ≤ ((B (c :: l)).size : Int) := c2
    have c1 : (([] : List ByteArray)).length + (t.kids.map fun u => B u.text).length < 8796093022208 := by
      rw [List.length_map, List.length_nil, Nat.zero_add]
      exact Nat.lt_of_le_of_lt hkl (by decide)
    have c6 : ¬ (B (c :: l)).toList = [] := by rw [B_toList]; simp
    rw [spec_tmPut.f]
    simp only [c6, if_false, Option.bind_some, hp, hvc, hw1, c1, c2, c3, c4, c5, if_true, hr, hex, hi, Int.toNat_natCast]
    have fin : ∀ x : Option ByteArray, (x.bind fun t158 => some t158) = x := fun x => by cases x <;> rfl
    try rw [fin]
    cases t with
    | leaf => simp [Tm.kids] at hj
    | un k a b t =>
      simp [Tm.kids] at hj
      subst hj
      exact with_un (u := putT q l t) hw (by omega) (by simp [Tm.kids] at hpu ht1; omega) (by omega)
    | bin k a b t u =>
      simp [Tm.kids] at hj
      have hu1 : t.text.length ≤ (Tm.bin k a b t u).text.length := by simp [Tm.text]; omega
      have hu2 : u.text.length ≤ (Tm.bin k a b t u).text.length := by simp [Tm.text]; omega
      rcases (by omega : j = 0 ∨ j = 1) with rfl | rfl
      · have h : c = 48 := by apply UInt8.toNat_inj.mp; simpa using hcj
        simp only [putT, if_pos h]
        exact with_bin (u := putT q l t) (v := u) hw (by omega) (by simp [Tm.kids] at hpu ht1; omega) (by omega) (by omega)
      · have h : ¬ c = 48 := by intro h; rw [h] at hcj; simp at hcj
        simp only [putT, if_neg h]
        exact with_bin (u := t) (v := putT q l u) hw (by omega) (by omega) (by simp [Tm.kids] at hpu ht1; omega) (by omega)

end Go.Proofs.Ytjinjanjjecmiaa.PReplaceAt
