/- The reference's tmAlpha, at the texts of terms. -/
import Derived.Test.YtjinjanjjecmiaaBindsAreAlpha
import Derived.Test.YtjinjanjjecmiaaPutP
import Derived.Test.YtjinjanjjecmiaaAlphaP
namespace Go.Proofs.Ytjinjanjjecmiaa.PAreAlpha
open Go.RowKit Go.Proofs.YtjinjanjjecmiaaW.PrintWords Go.Proofs.YtjinjanjjecmiaaW.PrintLast Go.Proofs.YtjinjanjjecmiaaW.PrintMore
set_option linter.unusedVariables false
set_option linter.unusedSimpArgs false

theorem bt_get (l : List UInt8) (i : Nat) (h : i < l.length) : bt (B l) (i : Int) = vl l[i] := by
  rw [bt_at]; unfold at_; rw [List.getElem?_eq_getElem h]; rfl
theorem same_l0 (a b : UInt8) (X Y : List UInt8) (hl : X.length = Y.length) (hX : X.length ≤ 100000000) : ∀ (n i k : Nat), X.length = i + n → n + 1 ≤ k →
    spec_tmSamePlace.l0 k (vl a) (vl b) (B X) (B Y) (i : Int) = some (sameL (X.drop i) (Y.drop i) a b) := by
  intro n
  induction n with
  | zero =>
    intro i k hi hk
    obtain ⟨k, rfl⟩ : ∃ m, k = m + 1 := ⟨k - 1, by omega⟩
    have h1 : ¬ (i : Int) < ((B X).size : Int) := by rw [B_size]; omega
    rw [spec_tmSamePlace.l0, if_neg h1, List.drop_eq_nil_of_le (by omega), List.drop_eq_nil_of_le (by omega)]
    simp only [sameL, vl_beq]
    rfl
  | succ n ih =>
    intro i k hi hk
    obtain ⟨k, rfl⟩ : ∃ m, k = m + 1 := ⟨k - 1, by omega⟩
    have h1 : (i : Int) < ((B X).size : Int) := by rw [B_size]; omega
    have h2 : (i : Int) < ((B Y).size : Int) := by rw [B_size]; omega
    have h0 : (0 : Int) ≤ (i : Int) := Int.natCast_nonneg i
    have hw : wrap64 ((i : Int) + 1) = ((i + 1 : Nat) : Int) := by rw [wrap_id (by omega) (by omega)]; omega
    have hx : i < X.length := by omega
    have hy : i < Y.length := by omega
    rw [spec_tmSamePlace.l0, if_pos h1, if_pos h0, bt_get X i hx, bt_get Y i hy, hw, ih (i + 1) k (by omega) (by omega), List.drop_eq_getElem_cons hx, List.drop_eq_getElem_cons hy]
    simp only [sameL]
    by_cases ha : X[i] = a
    · rw [if_pos (vl_inj.mpr ha), if_pos h2, if_pos (.inl ha), vl_beq]
      simp [ha]
      rfl
    · rw [if_neg (fun h => ha (vl_inj.mp h)), if_pos h2]
      by_cases hb : Y[i] = b
      · rw [if_pos (vl_inj.mpr hb), if_pos (.inr hb)]
        simp [ha]
      · rw [if_neg (fun h => hb (vl_inj.mp h)), if_neg (by rintro (h | h); exact ha h; exact hb h)]
theorem same_f (a b : UInt8) (X Y : List UInt8) (k : Nat) (hl : X.length = Y.length) (hX : X.length ≤ 100000000) (hk : X.length + 1 ≤ k) :
    spec_tmSamePlace.f k (vl a) (vl b) (B X) (B Y) = some (sameI X Y a b) := by
  have := same_l0 a b X Y hl hX X.length 0 k (by omega) hk
  rw [spec_tmSamePlace.f, same_eq X Y a b hl]
  exact this

/-- The names of the first sign that it does not bind. -/
def nms (t : Tm) : List UInt8 := if t.kind = 33 ∨ t.kind = 61 then [t.na, t.nb] else if t.kind = 63 then [t.na] else []
theorem names_text {t : Tm} {k : Nat} (hw : Wf nameB t) (hl : t.text.length ≤ 1000000) (hk : t.size + 1 ≤ k) :
    spec_tmNames.f k (B t.text) = some (B (nms t)) := by
  rw [spec_tmNames.f, kind_text hw hl hk, Option.bind_some]
  have i1 : (0 : Nat) ≤ 1 := by decide
  by_cases h1 : t.kind = 33
  · rw [if_pos (by rw [h1]; rfl)]
    cases t with
    | leaf a b c => obtain rfl := kind_leaf hw; exact absurd h1 (by simp only [Tm.kind]; decide)
    | bin a b c v u => exact absurd h1 (by rcases kind_bin hw with rfl | rfl <;> (simp only [Tm.kind]; decide))
    | un a b c v =>
      simp only [Tm.kind] at h1
      subst h1
      rw [text_33]
      have e1 : (B (b :: 33 :: c :: 46 :: v.text)).extract 0 1 = B [b] := by rw [B_extract]; rfl
      have e2 : (B (b :: 33 :: c :: 46 :: v.text)).extract 2 3 = B [c] := by rw [B_extract]; rfl
      have s1 : (1 : Int) ≤ ((B (b :: 33 :: c :: 46 :: v.text)).size : Int) := by rw [B_size]; simp only [List.length_cons]; omega
      have s3 : (3 : Int) ≤ ((B (b :: 33 :: c :: 46 :: v.text)).size : Int) := by rw [B_size]; simp only [List.length_cons]; omega
      have s4 : (B [b]).size + (B [c]).size ≤ 9223372036854775807 := by rw [B_size, B_size]; simp only [List.length_cons, List.length_nil]; omega
      rw [e1, e2, if_pos (by decide), if_pos s1, if_pos (by decide), if_pos s3, if_pos s4, B_append]
      rfl
  by_cases h2 : t.kind = 63
  · rw [if_neg (by rw [h2]; decide), if_pos (by rw [h2]; rfl)]
    cases t with
    | leaf a b c => obtain rfl := kind_leaf hw; exact absurd h2 (by simp only [Tm.kind]; decide)
    | bin a b c v u => exact absurd h2 (by rcases kind_bin hw with rfl | rfl <;> (simp only [Tm.kind]; decide))
    | un a b c v =>
      simp only [Tm.kind] at h2
      subst h2
      rw [text_63]
      have e1 : (B (b :: 63 :: c :: 46 :: v.text)).extract 0 1 = B [b] := by rw [B_extract]; rfl
      have s1 : (1 : Int) ≤ ((B (b :: 63 :: c :: 46 :: v.text)).size : Int) := by rw [B_size]; simp only [List.length_cons]; omega
      rw [e1, if_pos (by decide), if_pos s1]
      rfl
  by_cases h3 : t.kind = 61
  · rw [if_neg (by rw [h3]; decide), if_neg (by rw [h3]; decide), if_pos (by rw [h3]; rfl)]
    cases t with
    | leaf a b c => obtain rfl := kind_leaf hw; exact absurd h3 (by simp only [Tm.kind]; decide)
    | bin a b c v u => exact absurd h3 (by rcases kind_bin hw with rfl | rfl <;> (simp only [Tm.kind]; decide))
    | un a b c v =>
      simp only [Tm.kind] at h3
      subst h3
      rw [text_61]
      have e1 : (B (91 :: b :: 61 :: c :: 93 :: v.text)).extract 1 2 = B [b] := by rw [B_extract]; rfl
      have e2 : (B (91 :: b :: 61 :: c :: 93 :: v.text)).extract 3 4 = B [c] := by rw [B_extract]; rfl
      have s1 : (2 : Int) ≤ ((B (91 :: b :: 61 :: c :: 93 :: v.text)).size : Int) := by rw [B_size]; simp only [List.length_cons]; omega
      have s3 : (4 : Int) ≤ ((B (91 :: b :: 61 :: c :: 93 :: v.text)).size : Int) := by rw [B_size]; simp only [List.length_cons]; omega
      have s4 : (B [b]).size + (B [c]).size ≤ 9223372036854775807 := by rw [B_size, B_size]; simp only [List.length_cons, List.length_nil]; omega
      rw [e1, e2, if_pos (by decide), if_pos s1, if_pos (by decide), if_pos s3, if_pos s4, B_append]
      rfl
  · have n1 : ¬ vl t.kind = 33 := fun h => h1 (vl_inj.mp h)
    have n2 : ¬ vl t.kind = 63 := fun h => h2 (vl_inj.mp h)
    have n3 : ¬ vl t.kind = 61 := fun h => h3 (vl_inj.mp h)
    rw [if_neg n1, if_neg n2, if_neg n3, nms, if_neg (by rintro (h | h); exact h1 h; exact h3 h), if_neg h2]
    rfl

/-- What stands behind the names. -/
def nxt (t u : Tm) (X Y : List UInt8) : List UInt8 × List UInt8 := if t.kind = 63 ∨ t.kind = 35 then (t.nb :: X, u.nb :: Y) else (X, Y)
theorem al_step (P Q X Y us vs : List UInt8) (i k : Nat) (hl : X.length = Y.length) (hX : X.length ≤ 100000000) (hk : X.length + 1 ≤ k) (ha : i < us.length) (hb : i < vs.length) (hi : i < 10) :
    spec_tmAlpha.l0 (k + 1) (B P) (B Q) (B X) (B Y) (B us) (B vs) (i : Int) = if sameI X Y us[i] vs[i] = true then spec_tmAlpha.l0 k (B P) (B Q) (B X) (B Y) (B us) (B vs) ((i + 1 : Nat) : Int) else some false := by
  have h1 : (i : Int) < ((B us).size : Int) := by rw [B_size]; omega
  have h2 : (i : Int) < ((B vs).size : Int) := by rw [B_size]; omega
  have h0 : (0 : Int) ≤ (i : Int) := Int.natCast_nonneg i
  have hw : wrap64 ((i : Int) + 1) = ((i + 1 : Nat) : Int) := by rw [wrap_id (by omega) (by omega)]; omega
  rw [spec_tmAlpha.l0, if_pos h1, if_pos h0, if_pos h2, bt_get us i ha, bt_get vs i hb, same_f us[i] vs[i] X Y k hl hX hk, Option.bind_some, hw]
theorem num_one (c : UInt8) : strOfNums [vl c] = B [c] := by simp [strOfNums, B, vl]
theorem al_end (t u : Tm) (X Y us vs : List UInt8) (i k : Nat) (hw : Wf nameB t) (hl : t.text.length ≤ 1000000) (hw2 : Wf nameB u) (hl2 : u.text.length ≤ 1000000) (he : t.kind = u.kind) (hX : X.length ≤ 100000000) (hY : Y.length ≤ 100000000)
    (hk : t.size + 1 ≤ k) (hk2 : u.size + 1 ≤ k) (hi : us.length ≤ i) :
    spec_tmAlpha.l0 (k + 1) (B t.text) (B u.text) (B X) (B Y) (B us) (B vs) (i : Int) = spec_tmAlpha.j1 k (B t.text) (B u.text) (B (nxt t u X Y).1) (B (nxt t u X Y).2) := by
  have h1 : ¬ (i : Int) < ((B us).size : Int) := by rw [B_size]; omega
  rw [spec_tmAlpha.l0, if_neg h1, binds_text hw hl hk, Option.bind_some]
  by_cases hb : t.kind = 63 ∨ t.kind = 35
  · have hb2 : u.kind = 63 ∨ u.kind = 35 := by rw [← he]; exact hb
    have z1 : (B [t.nb]).size + (B X).size ≤ 9223372036854775807 := by rw [B_size, B_size]; simp only [List.length_cons, List.length_nil]; omega
    have z2 : (B [u.nb]).size + (B Y).size ≤ 9223372036854775807 := by rw [B_size, B_size]; simp only [List.length_cons, List.length_nil]; omega
    rw [if_pos hb, if_pos rfl, binds_text hw2 hl2 hk2, Option.bind_some, if_pos hb2]
    simp only [Option.bind_some, num_one]
    rw [if_pos z1, if_pos z2, nxt, if_pos hb, B_append, B_append]
    rfl
  · rw [if_neg hb, if_neg (by decide), nxt, if_neg hb]
theorem al_names (t u : Tm) (X Y : List UInt8) (k : Nat) (hw : Wf nameB t) (hl : t.text.length ≤ 1000000) (hw2 : Wf nameB u) (hl2 : u.text.length ≤ 1000000) (he : t.kind = u.kind) (hX : X.length ≤ 100000000) (hY : X.length = Y.length)
    (hk : t.size + 1 ≤ k) (hk2 : u.size + 1 ≤ k) (hk3 : X.length + 1 ≤ k) :
    spec_tmAlpha.f (k + 4) (B t.text) (B u.text) (B X) (B Y) =
      if t.kind = 33 ∨ t.kind = 61 then (if sameI X Y t.na u.na = true then (if sameI X Y t.nb u.nb = true then spec_tmAlpha.j1 k (B t.text) (B u.text) (B X) (B Y) else some false) else some false)
      else if t.kind = 63 then (if sameI X Y t.na u.na = true then spec_tmAlpha.j1 (k + 1) (B t.text) (B u.text) (B (t.nb :: X)) (B (u.nb :: Y)) else some false)
      else if t.kind = 35 then spec_tmAlpha.j1 (k + 2) (B t.text) (B u.text) (B (t.nb :: X)) (B (u.nb :: Y))
      else spec_tmAlpha.j1 (k + 2) (B t.text) (B u.text) (B X) (B Y) := by
  rw [spec_tmAlpha.f, kind_text hw hl (by omega), kind_text hw2 hl2 (by omega)]
  simp only [Option.bind_some]
  rw [if_pos (by rw [he]), names_text hw hl (by omega), names_text hw2 hl2 (by omega)]
  simp only [Option.bind_some]
  by_cases h1 : t.kind = 33 ∨ t.kind = 61
  · have h1' : u.kind = 33 ∨ u.kind = 61 := by rw [← he]; exact h1
    have hn : ¬ (t.kind = 63 ∨ t.kind = 35) := by rintro (h | h) <;> rw [h] at h1 <;> revert h1 <;> decide
    have e : spec_tmAlpha.l0 (k + 3) (B t.text) (B u.text) (B X) (B Y) (B [t.na, t.nb]) (B [u.na, u.nb]) 0 = if sameI X Y t.na u.na = true then spec_tmAlpha.l0 (k + 2) (B t.text) (B u.text) (B X) (B Y) (B [t.na, t.nb]) (B [u.na, u.nb]) 1 else some false :=
      al_step t.text u.text X Y [t.na, t.nb] [u.na, u.nb] 0 (k + 2) hY hX (by omega) (by simp) (by simp) (by omega)
    have e2 : spec_tmAlpha.l0 (k + 2) (B t.text) (B u.text) (B X) (B Y) (B [t.na, t.nb]) (B [u.na, u.nb]) 1 = if sameI X Y t.nb u.nb = true then spec_tmAlpha.l0 (k + 1) (B t.text) (B u.text) (B X) (B Y) (B [t.na, t.nb]) (B [u.na, u.nb]) 2 else some false :=
      al_step t.text u.text X Y [t.na, t.nb] [u.na, u.nb] 1 (k + 1) hY hX (by omega) (by simp) (by simp) (by omega)
    have e3 := al_end t u X Y [t.na, t.nb] [u.na, u.nb] 2 k hw hl hw2 hl2 he hX (by omega) (by omega) (by omega) (by simp)
    rw [show nxt t u X Y = (X, Y) from if_neg hn] at e3
    have e3' : spec_tmAlpha.l0 (k + 1) (B t.text) (B u.text) (B X) (B Y) (B [t.na, t.nb]) (B [u.na, u.nb]) 2 = spec_tmAlpha.j1 k (B t.text) (B u.text) (B X) (B Y) := e3
    rw [if_pos h1, show nms t = [t.na, t.nb] from if_pos h1, show nms u = [u.na, u.nb] from if_pos h1', e, e2, e3']
  have h1' : ¬ (u.kind = 33 ∨ u.kind = 61) := by rw [← he]; exact h1
  by_cases h2 : t.kind = 63
  · have e : spec_tmAlpha.l0 (k + 3) (B t.text) (B u.text) (B X) (B Y) (B [t.na]) (B [u.na]) 0 = if sameI X Y t.na u.na = true then spec_tmAlpha.l0 (k + 2) (B t.text) (B u.text) (B X) (B Y) (B [t.na]) (B [u.na]) 1 else some false :=
      al_step t.text u.text X Y [t.na] [u.na] 0 (k + 2) hY hX (by omega) (by simp) (by simp) (by omega)
    have e3 := al_end t u X Y [t.na] [u.na] 1 (k + 1) hw hl hw2 hl2 he hX (by omega) (by omega) (by omega) (by simp)
    rw [show nxt t u X Y = (t.nb :: X, u.nb :: Y) from if_pos (.inl h2)] at e3
    have e3' : spec_tmAlpha.l0 (k + 2) (B t.text) (B u.text) (B X) (B Y) (B [t.na]) (B [u.na]) 1 = spec_tmAlpha.j1 (k + 1) (B t.text) (B u.text) (B (t.nb :: X)) (B (u.nb :: Y)) := e3
    rw [if_neg h1, if_pos h2, show nms t = [t.na] from by rw [nms, if_neg h1, if_pos h2], show nms u = [u.na] from by rw [nms, if_neg h1', if_pos (he ▸ h2)], e, e3']
  · have e3 := al_end t u X Y [] [] 0 (k + 2) hw hl hw2 hl2 he hX (by omega) (by omega) (by omega) (by simp)
    rw [if_neg h1, if_neg h2, show nms t = [] from by rw [nms, if_neg h1, if_neg h2], show nms u = [] from by rw [nms, if_neg h1', if_neg (he ▸ h2)]]
    refine e3.trans ?_
    by_cases h3 : t.kind = 35
    · rw [if_pos h3, show nxt t u X Y = (t.nb :: X, u.nb :: Y) from if_pos (.inr h3)]
    · rw [if_neg h3, show nxt t u X Y = (X, Y) from if_neg (by rintro (h | h); exact h2 h; exact h3 h)]

theorem al_parts (t u : Tm) (X Y : List UInt8) (k : Nat) (hw : Wf nameB t) (hl : t.text.length ≤ 1000000) (hw2 : Wf nameB u) (hl2 : u.text.length ≤ 1000000) (hk : t.size + 2 ≤ k) (hk2 : u.size + 2 ≤ k) :
    spec_tmAlpha.j1 (k + 1) (B t.text) (B u.text) (B X) (B Y) = spec_tmAlpha.l1 k (B X) (B Y) (u.kids.map fun v => B v.text) (t.kids.map fun v => B v.text) (t.kids.length : Int) 0 := by
  rw [spec_tmAlpha.j1, parts_text hw2 hl2 hk2, parts_text hw hl hk]
  simp only [Option.bind_some, List.length_map]
theorem l1_step (X Y : ByteArray) (ks js : List Tm) (i k : Nat) (hi : i < ks.length) (hj : i < js.length) (h2 : i < 10) :
    spec_tmAlpha.l1 (k + 1) X Y (js.map fun v => B v.text) (ks.map fun v => B v.text) (ks.length : Int) (i : Int) =
      (spec_tmAlpha.f k (B ks[i].text) (B js[i].text) X Y).bind fun r => if r = true then spec_tmAlpha.l1 k X Y (js.map fun v => B v.text) (ks.map fun v => B v.text) (ks.length : Int) ((i + 1 : Nat) : Int) else some false := by
  have h1 : (i : Int) < (ks.length : Int) := by omega
  have h0 : (0 : Int) ≤ (i : Int) := Int.natCast_nonneg i
  have h3 : (i : Int) < ((ks.map fun v => B v.text).length : Int) := by rw [List.length_map]; omega
  have h4 : (i : Int) < ((js.map fun v => B v.text).length : Int) := by rw [List.length_map]; omega
  have hw : wrap64 ((i : Int) + 1) = ((i + 1 : Nat) : Int) := by rw [wrap_id (by omega) (by omega)]; omega
  have r1 : rdOf ByteArray.empty (ks.map fun v => B v.text) (i : Int) = B ks[i].text := by unfold rdOf; simp [List.getD, hi]
  have r2 : rdOf ByteArray.empty (js.map fun v => B v.text) (i : Int) = B js[i].text := by unfold rdOf; simp [List.getD, hj]
  rw [spec_tmAlpha.l1, if_pos h1, if_pos h0, if_pos h3, if_pos h4, r1, r2, hw]
theorem l1_end (X Y : ByteArray) (ks js : List Tm) (i k : Nat) (hi : ks.length ≤ i) :
    spec_tmAlpha.l1 (k + 1) X Y (js.map fun v => B v.text) (ks.map fun v => B v.text) (ks.length : Int) (i : Int) = some true := by
  have h1 : ¬ (i : Int) < (ks.length : Int) := by omega
  rw [spec_tmAlpha.l1, if_neg h1]

theorem kid_len {t : Tm} (i : Nat) (hi : i < t.kids.length) : t.kids[i].text.length ≤ t.text.length := by
  cases t with
  | leaf => simp [Tm.kids] at hi
  | un => simp [Tm.kids] at hi; subst hi; simp [Tm.kids, Tm.text]
  | bin => simp [Tm.kids] at hi; rcases (by omega : i = 0 ∨ i = 1) with rfl | rfl <;> simp [Tm.kids, Tm.text] <;> omega
theorem tail_nil (t u : Tm) (X Y : List UInt8) (k : Nat) (hw : Wf nameB t) (hl : t.text.length ≤ 1000000) (hw2 : Wf nameB u) (hl2 : u.text.length ≤ 1000000) (hk : t.size + 2 ≤ k + 1) (hk2 : u.size + 2 ≤ k + 1) (h : t.kids = []) :
    spec_tmAlpha.j1 (k + 2) (B t.text) (B u.text) (B X) (B Y) = some true := by
  rw [al_parts t u X Y (k + 1) hw hl hw2 hl2 hk hk2]
  exact l1_end (B X) (B Y) t.kids u.kids 0 k (by rw [h]; simp)
theorem tail_one (t u v v2 : Tm) (X Y : List UInt8) (k : Nat) (r : Bool) (hw : Wf nameB t) (hl : t.text.length ≤ 1000000) (hw2 : Wf nameB u) (hl2 : u.text.length ≤ 1000000) (hk : t.size + 2 ≤ k + 1) (hk2 : u.size + 2 ≤ k + 1) (h : t.kids = [v]) (h2 : u.kids = [v2])
    (hi : spec_tmAlpha.f k (B v.text) (B v2.text) (B X) (B Y) = some r) :
    spec_tmAlpha.j1 (k + 2) (B t.text) (B u.text) (B X) (B Y) = some r := by
  rw [al_parts t u X Y (k + 1) hw hl hw2 hl2 hk hk2, h, h2]
  refine (l1_step (B X) (B Y) [v] [v2] 0 k (by simp) (by simp) (by omega)).trans ?_
  obtain ⟨k, rfl⟩ : ∃ m, k = m + 1 := ⟨k - 1, by omega⟩
  have e := l1_end (B X) (B Y) [v] [v2] 1 k (by simp)
  have hi' : spec_tmAlpha.f (k + 1) (B ([v][0]).text) (B ([v2][0]).text) (B X) (B Y) = some r := hi
  rw [hi', Option.bind_some]
  cases r with
  | false => rw [if_neg (by decide)]
  | true => rw [if_pos rfl]; exact e
theorem tail_two (t u v v2 z z2 : Tm) (X Y : List UInt8) (k : Nat) (r q : Bool) (hw : Wf nameB t) (hl : t.text.length ≤ 1000000) (hw2 : Wf nameB u) (hl2 : u.text.length ≤ 1000000) (hk : t.size + 2 ≤ k + 1) (hk2 : u.size + 2 ≤ k + 1) (h : t.kids = [v, z]) (h2 : u.kids = [v2, z2])
    (hi : spec_tmAlpha.f (k + 1) (B v.text) (B v2.text) (B X) (B Y) = some r) (hj : spec_tmAlpha.f k (B z.text) (B z2.text) (B X) (B Y) = some q) :
    spec_tmAlpha.j1 (k + 3) (B t.text) (B u.text) (B X) (B Y) = some (r && q) := by
  rw [al_parts t u X Y (k + 2) hw hl hw2 hl2 (by omega) (by omega), h, h2]
  refine (l1_step (B X) (B Y) [v, z] [v2, z2] 0 (k + 1) (by simp) (by simp) (by omega)).trans ?_
  have hi' : spec_tmAlpha.f (k + 1) (B ([v, z][0]).text) (B ([v2, z2][0]).text) (B X) (B Y) = some r := hi
  rw [hi', Option.bind_some]
  cases r with
  | false => rw [if_neg (by decide)]; rfl
  | true =>
    rw [if_pos rfl]
    refine (l1_step (B X) (B Y) [v, z] [v2, z2] 1 k (by simp) (by simp) (by omega)).trans ?_
    obtain ⟨k, rfl⟩ : ∃ m, k = m + 1 := ⟨k - 1, by omega⟩
    have e := l1_end (B X) (B Y) [v, z] [v2, z2] 2 k (by simp)
    have hj' : spec_tmAlpha.f (k + 1) (B ([v, z][1]).text) (B ([v2, z2][1]).text) (B X) (B Y) = some q := hj
    rw [hj', Option.bind_some]
    cases q with
    | false => rw [if_neg (by decide)]; rfl
    | true => rw [if_pos rfl]; exact e

theorem ite1 (p : Bool) {A : Option Bool} {r : Bool} (h : A = some r) : (if p = true then A else some false) = some (p && r) := by
  cases p <;> simp [h]
theorem ite2 (p q : Bool) {A : Option Bool} {r : Bool} (h : A = some r) : (if p = true then if q = true then A else some false else some false) = some (p && q && r) := by
  cases p <;> cases q <;> simp [h]
theorem al_text (t : Tm) : ∀ (u : Tm) (X Y : List UInt8) (k : Nat), Wf nameB t → t.text.length ≤ 1000000 → Wf nameB u → u.text.length ≤ 1000000 → X.length + t.size ≤ 10000000 → X.length = Y.length → 10 * t.size + X.length + u.size + 20 ≤ k →
    spec_tmAlpha.f k (B t.text) (B u.text) (B X) (B Y) = some (alp t u X Y) := by
  have neq : ∀ (t u : Tm) (X Y : List UInt8) (k : Nat), Wf nameB t → t.text.length ≤ 1000000 → Wf nameB u → u.text.length ≤ 1000000 → t.size + u.size + 10 ≤ k → ¬ t.kind = u.kind → spec_tmAlpha.f k (B t.text) (B u.text) (B X) (B Y) = some (alp t u X Y) := by
    intro t u X Y k hw hl hw2 hl2 hk he
    obtain ⟨k, rfl⟩ : ∃ m, k = m + 4 := ⟨k - 4, by omega⟩
    have e : alp t u X Y = false := by
      cases t <;> cases u <;> simp only [alp] <;> (rw [decide_eq_false (by simpa only [Tm.kind] using he)]; try rfl)
    rw [spec_tmAlpha.f, kind_text hw hl (by omega), kind_text hw2 hl2 (by omega)]
    simp only [Option.bind_some]
    rw [if_neg (fun h => he (vl_inj.mp h)), e]
  induction t with
  | leaf k0 a b =>
    intro u X Y k hw hl hw2 hl2 hX hY hk
    by_cases he : ¬ (Tm.leaf k0 a b).kind = u.kind
    · exact neq _ u X Y k hw hl hw2 hl2 (by omega) he
    replace he := Decidable.not_not.mp he
    obtain rfl := kind_leaf hw
    cases u with
    | un k2 c d v => obtain ⟨h, _⟩ := kind_un hw2; exact absurd he.symm h
    | bin k2 c d v z => exact absurd he (by rcases kind_bin hw2 with rfl | rfl <;> (simp only [Tm.kind]; decide))
    | leaf k2 c d =>
      obtain rfl := kind_leaf hw2
      obtain ⟨k, rfl⟩ : ∃ m, k = m + 4 := ⟨k - 4, by omega⟩
      simp only [Tm.size] at hk hX
      rw [al_names _ _ X Y k hw hl hw2 hl2 he (by omega) hY (by simp only [Tm.size]; omega) (by simp only [Tm.size]; omega) (by omega)]
      rw [if_neg (by simp only [Tm.kind]; decide), if_neg (by simp only [Tm.kind]; decide), if_neg (by simp only [Tm.kind]; decide)]
      rw [tail_nil _ _ X Y k hw hl hw2 hl2 (by simp only [Tm.size]; omega) (by simp only [Tm.size]; omega) rfl]
      simp [alp]
  | un k0 a b v ih =>
    intro u X Y k hw hl hw2 hl2 hX hY hk
    by_cases he : ¬ (Tm.un k0 a b v).kind = u.kind
    · exact neq _ u X Y k hw hl hw2 hl2 (by omega) he
    replace he := Decidable.not_not.mp he
    obtain ⟨m1, m2, m3⟩ := kind_un hw
    cases u with
    | leaf k2 c d => obtain rfl := kind_leaf hw2; exact absurd he m1
    | bin k2 c d v2 z2 => exact absurd he (by rcases kind_bin hw2 with rfl | rfl <;> simp only [Tm.kind] <;> assumption)
    | un k2 c d v2 =>
      simp only [Tm.kind] at he
      subst he
      obtain ⟨k, rfl⟩ : ∃ m, k = m + 4 := ⟨k - 4, by omega⟩
      have hv : v.text.length ≤ (Tm.un k0 a b v).text.length := (kid_len (t := .un k0 a b v) 0 (by simp [Tm.kids]))
      have hv2 : v2.text.length ≤ (Tm.un k0 c d v2).text.length := (kid_len (t := .un k0 c d v2) 0 (by simp [Tm.kids]))
      simp only [Tm.size] at hk hX
      have tl : ∀ (X' Y' : List UInt8) (j : Nat), X'.length ≤ X.length + 1 → X'.length = Y'.length → k ≤ j + 2 → spec_tmAlpha.j1 (j + 2) (B (Tm.un k0 a b v).text) (B (Tm.un k0 c d v2).text) (B X') (B Y') = some (alp v v2 X' Y') := fun X' Y' j h1 h2 h3 =>
        tail_one _ _ v v2 X' Y' j _ hw hl hw2 hl2 (by simp only [Tm.size]; omega) (by simp only [Tm.size]; omega) rfl rfl (ih v2 X' Y' j hw.2 (by omega) hw2.2 (by omega) (by omega) h2 (by omega))
      rw [al_names _ _ X Y k hw hl hw2 hl2 rfl (by omega) hY (by simp only [Tm.size]; omega) (by simp only [Tm.size]; omega) (by omega)]
      have al : alp (.un k0 a b v) (.un k0 c d v2) X Y = (if k0 = 33 ∨ k0 = 61 then sameI X Y a c && sameI X Y b d && alp v v2 X Y
       else if k0 = 63 then sameI X Y a c && alp v v2 (b :: X) (d :: Y)
       else if k0 = 35 then alp v v2 (b :: X) (d :: Y)
       else alp v v2 X Y) := by simp only [alp, decide_true, Bool.true_and]
      rw [al]
      by_cases h1 : k0 = 33 ∨ k0 = 61
      · obtain ⟨k, rfl⟩ : ∃ m, k = m + 2 := ⟨k - 2, by omega⟩
        rw [if_pos (c := (Tm.un k0 a b v).kind = 33 ∨ (Tm.un k0 a b v).kind = 61) h1, if_pos h1]
        exact ite2 _ _ (tl X Y k (by omega) hY (by omega))
      rw [if_neg (c := (Tm.un k0 a b v).kind = 33 ∨ (Tm.un k0 a b v).kind = 61) h1, if_neg h1]
      by_cases h2 : k0 = 63
      · obtain ⟨k, rfl⟩ : ∃ m, k = m + 1 := ⟨k - 1, by omega⟩
        rw [if_pos (c := (Tm.un k0 a b v).kind = 63) h2, if_pos h2]
        exact ite1 _ (tl (b :: X) (d :: Y) k (by simp) (by simp [hY]) (by omega))
      rw [if_neg (c := (Tm.un k0 a b v).kind = 63) h2, if_neg h2]
      by_cases h3 : k0 = 35
      · rw [if_pos (c := (Tm.un k0 a b v).kind = 35) h3, if_pos h3]
        exact tl (b :: X) (d :: Y) k (by simp) (by simp [hY]) (by omega)
      · rw [if_neg (c := (Tm.un k0 a b v).kind = 35) h3, if_neg h3, tl X Y k (by omega) hY (by omega)]
  | bin k0 a b v z ih1 ih2 =>
    intro u X Y k hw hl hw2 hl2 hX hY hk
    by_cases he : ¬ (Tm.bin k0 a b v z).kind = u.kind
    · exact neq _ u X Y k hw hl hw2 hl2 (by omega) he
    replace he := Decidable.not_not.mp he
    have hk0 := kind_bin hw
    cases u with
    | leaf k2 c d => obtain rfl := kind_leaf hw2; exact absurd he (by rcases hk0 with rfl | rfl <;> (simp only [Tm.kind]; decide))
    | un k2 c d v2 => obtain ⟨m1, m2, m3⟩ := kind_un hw2; exact absurd he.symm (by rcases hk0 with rfl | rfl <;> simp only [Tm.kind] <;> assumption)
    | bin k2 c d v2 z2 =>
      simp only [Tm.kind] at he
      subst he
      obtain ⟨k, rfl⟩ : ∃ m, k = m + 5 := ⟨k - 5, by omega⟩
      have hv : v.text.length ≤ (Tm.bin k0 a b v z).text.length := (kid_len (t := .bin k0 a b v z) 0 (by simp [Tm.kids]))
      have hv2 : v2.text.length ≤ (Tm.bin k0 c d v2 z2).text.length := (kid_len (t := .bin k0 c d v2 z2) 0 (by simp [Tm.kids]))
      have hz : z.text.length ≤ (Tm.bin k0 a b v z).text.length := (kid_len (t := .bin k0 a b v z) 1 (by simp [Tm.kids]))
      have hz2 : z2.text.length ≤ (Tm.bin k0 c d v2 z2).text.length := (kid_len (t := .bin k0 c d v2 z2) 1 (by simp [Tm.kids]))
      simp only [Tm.size] at hk hX
      have n1 : ¬ (k0 = 33 ∨ k0 = 61) := by rcases hk0 with rfl | rfl <;> decide
      have n2 : ¬ k0 = 63 := by rcases hk0 with rfl | rfl <;> decide
      have n3 : ¬ k0 = 35 := by rcases hk0 with rfl | rfl <;> decide
      rw [al_names _ _ X Y (k + 1) hw hl hw2 hl2 rfl (by omega) hY (by simp only [Tm.size]; omega) (by simp only [Tm.size]; omega) (by omega)]
      rw [if_neg (c := (Tm.bin k0 a b v z).kind = 33 ∨ (Tm.bin k0 a b v z).kind = 61) n1, if_neg (c := (Tm.bin k0 a b v z).kind = 63) n2, if_neg (c := (Tm.bin k0 a b v z).kind = 35) n3]
      rw [tail_two _ _ v v2 z z2 X Y k _ _ hw hl hw2 hl2 (by simp only [Tm.size]; omega) (by simp only [Tm.size]; omega) rfl rfl
        (ih1 v2 X Y (k + 1) hw.2.2.2.1 (by omega) hw2.2.2.2.1 (by omega) (by omega) hY (by omega)) (ih2 z2 X Y k hw.2.2.2.2 (by omega) hw2.2.2.2.2 (by omega) (by omega) hY (by omega))]
      simp [alp]
end Go.Proofs.Ytjinjanjjecmiaa.PAreAlpha
