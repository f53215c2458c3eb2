/- The reference's sends-last, at a term's text. -/
import Derived.Test.YtjinjanjjecmiaaSpecbSendsLast
import Derived.Test.YtjinjanjjecmiaaSenses
namespace Go.Proofs.Ytjinjanjjecmiaa.PSendsLast
open Go.RowKit Go.Proofs.YtjinjanjjecmiaaW.PrintWords Go.Proofs.YtjinjanjjecmiaaW.PrintLast Go.Proofs.YtjinjanjjecmiaaW.PrintMore
set_option linter.unusedVariables false
set_option linter.unusedSimpArgs false

/-- The text of a term is that of the end just where the term is it. -/
theorem text_end {t : Tm} (h : Wf nameB t) : ((B t.text).toList != ([48] : List UInt8)) = (vl t.kind != 48) := by
  rw [B_toList]
  cases t with
  | leaf k a b => obtain rfl := kind_leaf h; rfl
  | un k a b t =>
    have h1 := (kind_un h).1
    rw [show (48 : Int) = vl 48 from rfl, vl_bne, show ((Tm.un k a b t).kind != 48) = true from by simpa [Tm.kind] using h1, bne_iff_ne]
    intro e
    have h2 := congrArg List.length e
    have h3 : 0 < t.text.length := text_len t
    simp only [Tm.text, List.length_append, List.length_cons, List.length_nil] at h2
    have h4 : 0 < (if k = 35 then [35, b, 46] else if k = 61 then [91, a, 61, b, 93] else if k = 42 then [42] else if k = 126 then [126, 46] else [a, k, b, 46]).length := by
      repeat' split
      all_goals simp
    omega
  | bin k a b t u =>
    rw [show (48 : Int) = vl 48 from rfl, vl_bne, show ((Tm.bin k a b t u).kind != 48) = true from by rcases kind_bin h with rfl | rfl <;> rfl, bne_iff_ne]
    intro e
    have h2 := congrArg List.length e
    simp [Tm.text] at h2

theorem las_step (k : Nat) (t : Tm) (sum : Bool) (hw : Wf nameB t) (hl : t.text.length ≤ 1000000) (hk : t.size + 2 ≤ k) :
    spec_soLast.f (k + 2) (B t.text) sum = if (vl t.kind == 33 && (sum || (t.kids.map fun u => vl u.kind != 48).getD 0 false)) = true then some false else spec_soLast.l0 k (B t.text) (t.kids.map fun u => B u.text) (t.kids.length : Int) 0 := by
  rw [spec_soLast.f, parts_text hw hl (by omega), Option.bind_some, kind_text hw hl (by omega), Option.bind_some]
  by_cases h33 : vl t.kind = 33
  · rw [if_pos h33, show (vl t.kind == 33) = true from by simp [h33], Bool.true_and]
    cases sum
    · rw [if_neg (by decide), Bool.false_or]
      cases t with
      | leaf a b c => obtain rfl := kind_leaf hw; exact absurd h33 (by simp only [Tm.kind]; decide)
      | un a b c v =>
        rw [if_pos (by simp [Tm.kids]), show rdOf ByteArray.empty ((Tm.un a b c v).kids.map fun u => B u.text) 0 = B v.text from rfl, text_end hw.2, spec_soLast.j0, List.length_map]
        simp [Tm.kids]
      | bin a b c v u => exact absurd h33 (by rcases kind_bin hw with rfl | rfl <;> (simp only [Tm.kind]; decide))
    · rw [if_pos rfl, spec_soLast.j0]; rfl
  · rw [if_neg h33, show (vl t.kind == 33) = false from by simp [h33], spec_soLast.j0, List.length_map]
    rfl
theorem las_round {k : Nat} {t u : Tm} (hw : Wf nameB t) (hl : t.text.length ≤ 1000000) (hk : t.size + 1 ≤ k)
    {xs : List ByteArray} {i : Nat} {n : Int} (hn : n = xs.length) (hi : i < xs.length) (hlen : xs.length ≤ 1000000) (hx : xs.getD i ByteArray.empty = B u.text) {y : Bool} (h : spec_soLast.f k (B u.text) (vl t.kind == 43) = some y) :
    spec_soLast.l0 (k + 1) (B t.text) xs n i = if y = true then spec_soLast.l0 k (B t.text) xs n ((i + 1 : Nat) : Int) else some false := by
  subst hn
  rw [spec_soLast.l0, if_pos (by omega), if_pos (by omega), if_pos (by omega), show rdOf ByteArray.empty xs (i : Int) = xs.getD i ByteArray.empty from rfl, hx, kind_text hw hl hk, Option.bind_some, h, Option.bind_some, wrap_id (x := (i : Int) + 1) (by omega) (by omega)]
  rfl
theorem las_end {k : Nat} {s : ByteArray} {xs : List ByteArray} {i : Nat} {n : Int} (hn : n = xs.length) (hi : i = xs.length) : spec_soLast.l0 (k + 1) s xs n i = some true := by
  subst hn; subst hi
  rw [spec_soLast.l0, if_neg (by omega)]
/-- What the reference says of a part, where the sign around it is a sum or not. -/
def lastP (sum : Bool) (t : Tm) : Bool := !(sum && vl t.kind == 33) && (pre t).all senP
theorem las_bool1 (x s z a : Bool) : (if (x && (s || z)) = true then some false else if a = true then some true else some false) = some (!(s && x) && ((!x || !z) && a)) := by
  cases x <;> cases s <;> cases z <;> cases a <;> rfl
theorem las_bool2 (s p q a b x : Bool) : (if (!(x && p) && a) = true then (if (!(x && q) && b) = true then some true else some false) else some false) = some ((!x || (!p && !q)) && (a && b)) := by
  cases p <;> cases q <;> cases a <;> cases b <;> cases x <;> rfl
theorem last_text (t : Tm) : ∀ sum k, Wf nameB t → t.text.length ≤ 1000000 → 6 * t.size + 20 ≤ k → spec_soLast.f k (B t.text) sum = some (lastP sum t) := by
  induction t with
  | leaf sk a b =>
    intro sum k hw hl hk
    simp only [Tm.size] at hk
    obtain rfl := kind_leaf hw
    obtain ⟨k, rfl⟩ : ∃ m, k = m + 3 := ⟨k - 3, by omega⟩
    rw [las_step (k + 1) _ sum hw hl (by simp only [Tm.size]; omega)]
    rw [show (vl (Tm.leaf 48 a b).kind == 33) = false from rfl, Bool.false_and, if_neg (by decide)]
    refine (las_end (xs := []) (i := 0) rfl rfl).trans ?_
    cases sum <;> rfl
  | un sk a b t ih =>
    intro sum k hw hl hk
    simp only [Tm.size] at hk
    have hl2 : t.text.length ≤ 1000000 := by simp only [Tm.text, List.length_append] at hl; omega
    obtain ⟨k, rfl⟩ : ∃ m, k = m + 4 := ⟨k - 4, by omega⟩
    rw [las_step (k + 2) _ sum hw hl (by simp only [Tm.size]; omega)]
    have e43 : (vl (Tm.un sk a b t).kind == 43) = false := by rw [show (43 : Int) = vl 43 from rfl, vl_beq]; simpa [Tm.kind] using (kind_un hw).2.1
    have r1 := las_round (k := k + 1) (xs := [B t.text]) (i := 0) hw hl (by simp only [Tm.size]; omega) rfl (by simp) (by simp) rfl (ih _ (k + 1) hw.2 hl2 (by omega))
    have h2 : spec_soLast.l0 (k + 1) (B (Tm.un sk a b t).text) [B t.text] (([B t.text].length : Nat) : Int) ((0 + 1 : Nat) : Int) = some true := las_end (i := 1) rfl rfl
    rw [h2, e43] at r1
    refine Eq.trans (congrArg (fun z => if (vl (Tm.un sk a b t).kind == 33 && (sum || ((Tm.un sk a b t).kids.map fun u => vl u.kind != 48).getD 0 false)) = true then some false else z) r1) ?_
    refine (las_bool1 (vl sk == 33) sum (vl t.kind != 48) ((pre t).all senP)).trans ?_
    simp only [lastP, pre, List.all_cons, senP, Tm.kind, bne, Bool.not_not]
  | bin sk a b t u ih1 ih2 =>
    intro sum k hw hl hk
    simp only [Tm.size] at hk
    have hl' := hl
    simp only [Tm.text, List.length_cons, List.length_append] at hl'
    obtain ⟨k, rfl⟩ : ∃ m, k = m + 5 := ⟨k - 5, by omega⟩
    rw [las_step (k + 3) _ sum hw hl (by simp only [Tm.size]; omega)]
    have r1 := las_round (k := k + 2) (xs := [B t.text, B u.text]) (i := 0) hw hl (by simp only [Tm.size]; omega) rfl (by simp) (by simp) rfl (ih1 _ (k + 2) hw.2.2.2.1 (by omega) (by omega))
    have r2 := las_round (k := k + 1) (xs := [B t.text, B u.text]) (i := 1) hw hl (by simp only [Tm.size]; omega) rfl (by simp) (by simp) rfl (ih2 _ (k + 1) hw.2.2.2.2 (by omega) (by omega))
    rw [las_end (i := 2) rfl rfl] at r2
    rw [show ((0 + 1 : Nat) : Int) = ((1 : Nat) : Int) from rfl, r2] at r1
    have e33 : (vl (Tm.bin sk a b t u).kind == 33) = false := by rcases kind_bin hw with rfl | rfl <;> rfl
    rw [e33, Bool.false_and, if_neg (by decide)]
    refine r1.trans ((las_bool2 sum (vl t.kind == 33) (vl u.kind == 33) ((pre t).all senP) ((pre u).all senP) (vl sk == 43)).trans ?_)
    have e33' : (vl sk == 33) = false := e33
    simp only [lastP, pre, List.all_cons, List.all_append, senP, Tm.kind, bne, e33', Bool.and_false, Bool.not_false, Bool.true_and]

end Go.Proofs.Ytjinjanjjecmiaa.PSendsLast
