/- The reference's biEnd, at a text. -/
import Derived.Test.YteepgblpoddcfaaFormP
import Derived.Test.YteepgblpoddcfaaPDepthOfFormulax
namespace Go.Proofs.Yteepgblpoddcfaa.PDepthOfFormula
open Go.RowKit Go.Proofs.YteepgblpoddcfaaW.PrintWords Go.Proofs.YteepgblpoddcfaaW.PrintLast Go.Proofs.YteepgblpoddcfaaW.PrintMore
set_option linter.unusedVariables false
set_option linter.unusedSimpArgs false

theorem num_eq (b c : UInt8) : ((b.toNat : Int) = (c.toNat : Int)) = (b = c) := by
  apply propext; rw [Int.ofNat_inj, UInt8.toNat_inj]
theorem lab_spec (l : List UInt8) (h : l.length ≤ 1048576) : spec_stLabel.f (B l) = some (labB l) := by
  have e33 (b : UInt8) : ((b.toNat : Int) = 33) = (b = 33) := num_eq b 33
  have e63 (b : UInt8) : ((b.toNat : Int) = 63) = (b = 63) := num_eq b 63
  match l with
  | [] => simp [spec_stLabel.f, B_toList, B_size, labB]
  | [a] => by_cases ha : a = 126 <;> simp [spec_stLabel.f, B_toList, B_size, ha, labB]
  | [a, b] => simp [spec_stLabel.f, B_toList, B_size, labB]
  | [a, b, c] =>
    by_cases h1 : 97 ≤ (a.toNat : Int) <;> by_cases h2 : (a.toNat : Int) ≤ 122 <;> by_cases h3 : 97 ≤ (c.toNat : Int) <;> by_cases h4 : (c.toNat : Int) ≤ 122 <;> by_cases h5 : b = 33 <;> by_cases h6 : b = 63 <;>
      simp [spec_stLabel.f, spec_tmOne.f, B_toList, B_size, bt_B, B_extract, at_, vl, wrap64, e33, e63, h1, h2, h3, h4, h5, h6, labB, isLet]
  | [a, b, c, d] =>
    by_cases h1 : 97 ≤ (a.toNat : Int) <;> by_cases h2 : (a.toNat : Int) ≤ 122 <;> by_cases h3 : 97 ≤ (d.toNat : Int) <;> by_cases h4 : (d.toNat : Int) ≤ 122 <;> by_cases h5 : b = 33 <;> by_cases h6 : c = 35 <;>
      simp [spec_stLabel.f, spec_tmOne.f, B_toList, B_size, bt_B, B_extract, at_, vl, wrap64, h1, h2, h3, h4, h5, h6, labB, isLet]
  | a :: b :: c :: d :: e :: l =>
    simp only [List.length_cons] at h
    simp [spec_stLabel.f, B_toList, B_size, labB]
    rw [if_neg (by omega), if_neg (by omega)]

theorem bt_get (l : List UInt8) (i : Nat) (h : i < l.length) : bt (B l) (i : Int) = vl l[i] := by
  rw [bt_B, Int.toNat_natCast]; unfold at_; rw [List.getElem?_eq_getElem h]; rfl
theorem w_add (x y : Int) (h : 0 ≤ x) (h1 : 0 ≤ y) (h2 : x + y ≤ 1000000) : wrap64 (x + y) = x + y := wrap_id (by omega) (by omega)

def endR (s : List UInt8) (o : Option (Fm × List UInt8)) : Int := match o with | some x => (s.length : Int) - x.2.length | none => -1

theorem j2_no (s : List UInt8) (i n k : Nat) (hs : s.length ≤ 1000) (hi : i < s.length) (hn : n ≤ 4) (h : i + 1 + n < s.length → s[i + 1 + n]? = some 62 → labB ((s.drop (i + 1)).take n) = false) (hb : i + 1 + n < s.length) :
    spec_biEnd.j2 (k + 1) (B s) i n true = spec_biEnd.l0 k (B s) i ((n + 1 : Nat) : Int) := by
  have w1 : wrap64 ((i : Int) + 1) = ((i + 1 : Nat) : Int) := by rw [w_add _ _ (by omega) (by omega) (by omega)]; omega
  have w2 : wrap64 (((i + 1 : Nat) : Int) + (n : Int)) = ((i + 1 + n : Nat) : Int) := by rw [w_add _ _ (by omega) (by omega) (by omega)]; omega
  have w3 : wrap64 ((n : Int) + 1) = ((n + 1 : Nat) : Int) := by rw [w_add _ _ (by omega) (by omega) (by omega)]; omega
  have hz : ((B s).size : Int) = s.length := by rw [B_size]
  have ex : (B s).extract (i + 1) (i + 1 + n) = B ((s.drop (i + 1)).take n) := by
    rw [B_extract, List.drop_take]; congr 2; omega
  rw [spec_biEnd.j2, if_pos rfl, w1, w2, w3, if_pos (by omega), if_pos (by omega), bt_get s _ hb]
  by_cases hc : s[i + 1 + n] = 62
  · have hl := h hb (by rw [List.getElem?_eq_getElem hb, hc])
    rw [if_pos (by rw [hc]; rfl), if_pos (by omega), if_pos (by omega), if_pos (by omega), Int.toNat_natCast, Int.toNat_natCast, ex, lab_spec _ (by simp; omega), hl]
    simp only [Option.bind_some]
    rw [if_neg (by decide)]
  · rw [if_neg (fun h => hc (vl_inj.mp (h.trans rfl)))]
theorem l0_no (s : List UInt8) (i : Nat) (hs : s.length ≤ 1000) (hi : i < s.length) (h : ∀ n, 1 ≤ n → n ≤ 4 → i + 1 + n < s.length → s[i + 1 + n]? = some 62 → labB ((s.drop (i + 1)).take n) = false) :
    ∀ (m n k : Nat), 1 ≤ n → n + m = 5 → 2 * m + 2 ≤ k → spec_biEnd.l0 k (B s) i n = some (-1) := by
  have w1 : wrap64 ((i : Int) + 1) = ((i + 1 : Nat) : Int) := by rw [w_add _ _ (by omega) (by omega) (by omega)]; omega
  have hz : ((B s).size : Int) = s.length := by rw [B_size]
  intro m
  induction m with
  | zero =>
    intro n k h1 hn hk
    obtain ⟨k, rfl⟩ : ∃ m, k = m + 2 := ⟨k - 2, by omega⟩
    rw [spec_biEnd.l0, if_neg (by omega), spec_biEnd.j2, if_neg (by decide)]
  | succ m ih =>
    intro n k h1 hn hk
    obtain ⟨k, rfl⟩ : ∃ m, k = m + 2 := ⟨k - 2, by omega⟩
    have w2 : wrap64 (((i + 1 : Nat) : Int) + (n : Int)) = ((i + 1 + n : Nat) : Int) := by rw [w_add _ _ (by omega) (by omega) (by omega)]; omega
    rw [spec_biEnd.l0, if_pos (by omega), w1, w2]
    by_cases hb : i + 1 + n < s.length
    · rw [decide_eq_true (by omega), j2_no s i n k hs hi (by omega) (h n h1 (by omega)) hb]
      exact ih (n + 1) k (by omega) (by omega) (by omega)
    · rw [decide_eq_false (by omega), spec_biEnd.j2, if_neg (by decide)]
theorem lt_mid {i n m j s : Nat} (h : i + 1 + j < s) (hn : n + (m + 1) = j) : i + 1 + n < s := by omega
theorem le_mid {n m j : Nat} (h : j ≤ 4) (hn : n + (m + 1) = j) : n ≤ 4 ∧ (n : Int) ≤ 4 ∧ n < j := by omega
theorem step_mid {n m j k0 : Nat} (hn : n + (m + 1) = j) : n + 1 + m = j := by omega
theorem fuel_mid {k k0 m : Nat} (hk : k = k0 + 2 * (m + 1) + 2) : ∃ x, k = x + 2 ∧ x = k0 + 2 * m + 2 := ⟨k - 2, by omega, by omega⟩
theorem l0_hit (s : List UInt8) (i j : Nat) (v : Int) (hs : s.length ≤ 1000) (hi : i < s.length) (hj : 1 ≤ j) (hj4 : j ≤ 4) (hlt : i + 1 + j < s.length) (hc : s[i + 1 + j] = 62) (hl : labB ((s.drop (i + 1)).take j) = true)
    (hb : ∀ n, 1 ≤ n → n < j → s[i + 1 + n]? ≠ some 62) (k0 : Nat) (hv : spec_biEnd.f k0 (B s) ((i + 2 + j : Nat) : Int) = some v) :
    ∀ (m n k : Nat), 1 ≤ n → n + m = j → k = k0 + 2 * m + 2 → spec_biEnd.l0 k (B s) i n = some v := by
  have w1 : wrap64 ((i : Int) + 1) = ((i + 1 : Nat) : Int) := by rw [w_add _ _ (by omega) (by omega) (by omega)]; omega
  have w5 : wrap64 ((i : Int) + 2) = ((i + 2 : Nat) : Int) := by rw [w_add _ _ (by omega) (by omega) (by omega)]; omega
  have hz : ((B s).size : Int) = s.length := by rw [B_size]
  intro m
  induction m with
  | zero =>
    intro n k h1 hn hk
    obtain rfl : n = j := by omega
    subst hk
    have w2 : wrap64 (((i + 1 : Nat) : Int) + (n : Int)) = ((i + 1 + n : Nat) : Int) := by rw [w_add _ _ (by omega) (by omega) (by omega)]; omega
    have w6 : wrap64 (((i + 2 : Nat) : Int) + (n : Int)) = ((i + 2 + n : Nat) : Int) := by rw [w_add _ _ (by omega) (by omega) (by omega)]; omega
    have ex : (B s).extract (i + 1) (i + 1 + n) = B ((s.drop (i + 1)).take n) := by
      rw [B_extract, List.drop_take]; congr 2; omega
    rw [show k0 + 2 * 0 + 2 = (k0 + 1) + 1 from rfl, spec_biEnd.l0, if_pos (by omega), w1, w2, decide_eq_true (by omega)]
    rw [spec_biEnd.j2, if_pos rfl, w1, w2, if_pos (by omega), if_pos (by omega), bt_get s _ hlt, if_pos (by rw [hc]; rfl), if_pos (by omega), if_pos (by omega), if_pos (by omega), Int.toNat_natCast, Int.toNat_natCast, ex, lab_spec _ (by simp; omega), hl]
    simp only [Option.bind_some]
    rw [if_pos trivial, w5, w6, hv]; rfl
  | succ m ih =>
    intro n k h1 hn hk
    obtain ⟨x, rfl, hx⟩ := fuel_mid hk
    have q1 := lt_mid hlt hn
    obtain ⟨q3, q2, q5⟩ := le_mid hj4 hn
    have w2 : wrap64 (((i + 1 : Nat) : Int) + (n : Int)) = ((i + 1 + n : Nat) : Int) := by rw [w_add _ _ (by omega) (by omega) (by omega)]; rw [Int.natCast_add (i + 1) n]
    have hd : decide (((i + 1 + n : Nat) : Int) < ((B s).size : Int)) = true := decide_eq_true (by rw [hz]; exact Int.ofNat_lt.mpr q1)
    have q4 := j2_no s i n x hs hi q3 (fun _ h => absurd h (hb n h1 q5)) q1
    rw [spec_biEnd.l0, if_pos q2, w1, w2, hd, q4]
    exact ih (n + 1) x (Nat.le_add_left 1 n) (step_mid (k0 := k0) hn) hx

theorem end_none (s : List UInt8) : endR s none = -1 := rfl
theorem end_step (s : List UInt8) (hs : s.length ≤ 1000) (i k : Nat) (hlt : i < s.length) :
    spec_biEnd.f (k + 1) (B s) i = if vl s[i] = 84 then some ((i + 1 : Nat) : Int) else if vl s[i] = 33 then spec_biEnd.f k (B s) ((i + 1 : Nat) : Int)
      else if vl s[i] = 40 then (spec_biEnd.f k (B s) ((i + 1 : Nat) : Int)).bind fun t => if t < 0 then spec_biEnd.j0 k (B s) t true else if t ≥ (s.length : Int) then spec_biEnd.j0 k (B s) t true else if 0 ≤ t then (if t < (s.length : Int) then spec_biEnd.j0 k (B s) t (bt (B s) t != 38) else none) else none
      else if vl s[i] = 60 then spec_biEnd.l0 k (B s) i 1 else some (-1) := by
  have hz : ((B s).size : Int) = s.length := by rw [B_size]
  have w1 : wrap64 ((i : Int) + 1) = ((i + 1 : Nat) : Int) := by rw [w_add _ _ (by omega) (by omega) (by omega)]; omega
  rw [spec_biEnd.f, hz, if_neg (by omega), if_pos (by omega), if_pos (by omega), bt_get s i hlt, w1]
  have hb : ∀ x : Option Int, (x.bind fun t => some t) = x := fun x => by cases x <;> rfl
  rw [hb]
theorem end_j0 (s : List UInt8) (hs : s.length ≤ 1000) (q k : Nat) (hq : q < s.length) :
    spec_biEnd.j0 (k + 1) (B s) q false = (spec_biEnd.f k (B s) ((q + 1 : Nat) : Int)).bind fun t => if t < 0 then some (-1) else if t ≥ (s.length : Int) then some (-1) else if 0 ≤ t then (if t < (s.length : Int) then (if bt (B s) t = 41 then some (wrap64 (t + 1)) else some (-1)) else none) else none := by
  have hz : ((B s).size : Int) = s.length := by rw [B_size]
  have w1 : wrap64 ((q : Int) + 1) = ((q + 1 : Nat) : Int) := by rw [w_add _ _ (by omega) (by omega) (by omega)]; omega
  rw [spec_biEnd.j0, if_neg (by decide), w1, hz]
theorem end_rest {s : List UInt8} {i n : Nat} {f : Fm} {r : List UInt8} (hp : pF n (s.drop i) = some (f, r)) (hi : i ≤ s.length) : ∃ q : Nat, endR s (some (f, r)) = (q : Int) ∧ r = s.drop q ∧ q ≤ s.length ∧ i + f.text.length = q := by
  obtain ⟨e, _⟩ := pF_good _ _ _ _ hp
  have el := congrArg List.length e
  rw [List.length_append, List.length_drop] at el
  refine ⟨i + f.text.length, by simp only [endR]; omega, ?_, by omega, rfl⟩
  rw [← List.drop_drop, e]; simp
theorem fm_pos (f : Fm) : 1 ≤ f.text.length := by cases f <;> simp [Fm.text]
def EndUpto (s : List UInt8) (n : Nat) : Prop := ∀ (i k : Nat), i ≤ s.length → s.length - i ≤ n → 12 * n + 12 ≤ k → spec_biEnd.f k (B s) i = some (endR s (pF n (s.drop i)))
theorem end_conj2 (s : List UInt8) (hs : s.length ≤ 1000) (n : Nat) (ih : EndUpto s n) (q k : Nat) (f : Fm) (hq : q < s.length) (hn : s.length - q ≤ n) (hk : 12 * n + 13 ≤ k) :
    spec_biEnd.j0 k (B s) q false = some (endR s ((pF n (s.drop (q + 1))).bind fun y => match y.2 with | [] => none | e :: r3 => if e = 41 then some (.conj f y.1, r3) else none)) := by
  obtain ⟨k, rfl⟩ : ∃ m, k = m + 1 := ⟨k - 1, by omega⟩
  rw [end_j0 s hs q k hq, ih (q + 1) k (by omega) (by omega) (by omega), Option.bind_some]
  rcases hp : pF n (s.drop (q + 1)) with _ | ⟨g, r⟩
  · rw [end_none, if_pos (by decide)]; rfl
  · obtain ⟨p, e1, e2, e3, _⟩ := end_rest hp (by omega)
    rw [e1, if_neg (by omega)]
    by_cases hps : ¬ p < s.length
    · have : r = [] := by rw [e2]; exact List.drop_eq_nil_of_le (by omega)
      rw [if_pos (by omega), this]; rfl
    replace hps : p < s.length := by omega
    have w3 : wrap64 ((p : Int) + 1) = ((p + 1 : Nat) : Int) := by rw [w_add _ _ (by omega) (by omega) (by omega)]; omega
    rw [if_neg (by omega), if_pos (by omega), if_pos (by omega), bt_get s p hps, e2, List.drop_eq_getElem_cons hps, w3, Option.bind_some]
    simp only []
    by_cases h6 : s[p] = 41
    · rw [if_pos (show vl s[p] = 41 from by rw [h6]; rfl), if_pos h6]
      simp only [endR, List.length_drop]
      congr 1; omega
    · rw [if_neg (show ¬ vl s[p] = 41 from fun h => h6 (vl_inj.mp (h.trans rfl))), if_neg h6, end_none]
theorem end_conj (s : List UInt8) (hs : s.length ≤ 1000) (n : Nat) (ih : EndUpto s n) (i k : Nat) (hi : i < s.length) (hn : s.length - i ≤ n + 1) (hk : 12 * n + 20 ≤ k) :
    ((spec_biEnd.f k (B s) ((i + 1 : Nat) : Int)).bind fun t => if t < 0 then spec_biEnd.j0 k (B s) t true else if t ≥ (s.length : Int) then spec_biEnd.j0 k (B s) t true else if 0 ≤ t then (if t < (s.length : Int) then spec_biEnd.j0 k (B s) t (bt (B s) t != 38) else none) else none) =
      some (endR s ((pF n (s.drop (i + 1))).bind fun x => match x.2 with
        | [] => none
        | d :: r2 => if d = 38 then (pF n r2).bind fun y => (match y.2 with | [] => none | e :: r3 => if e = 41 then some (.conj x.1 y.1, r3) else none) else none)) := by
  rw [ih (i + 1) k (by omega) (by omega) (by omega), Option.bind_some]
  have ht : ∀ t, spec_biEnd.j0 k (B s) t true = some (-1) := fun t => by
    obtain ⟨k, rfl⟩ : ∃ m, k = m + 1 := ⟨k - 1, by omega⟩
    rw [spec_biEnd.j0, if_pos rfl]
  rcases hp : pF n (s.drop (i + 1)) with _ | ⟨f, r⟩
  · rw [end_none, if_pos (by decide), ht]; rfl
  · obtain ⟨q, e1, e2, e3, e4⟩ := end_rest hp (by omega)
    have hf := fm_pos f
    rw [e1, if_neg (by omega)]
    by_cases hqs : ¬ q < s.length
    · have : r = [] := by rw [e2]; exact List.drop_eq_nil_of_le (by omega)
      rw [if_pos (by omega), ht, this]; rfl
    replace hqs : q < s.length := by omega
    rw [if_neg (by omega), if_pos (by omega), if_pos (by omega), bt_get s q hqs, e2, List.drop_eq_getElem_cons hqs, Option.bind_some]
    simp only []
    by_cases h5 : s[q] = 38
    · rw [if_pos h5, show (vl s[q] != 38) = false from by rw [h5]; rfl]
      exact end_conj2 s hs n ih q k f hqs (by omega) (by omega)
    · rw [if_neg h5, show (vl s[q] != 38) = true from by rw [bne_iff_ne]; exact fun h => h5 (vl_inj.mp (h.trans rfl)), ht, end_none]
theorem end_lab (s : List UInt8) (hs : s.length ≤ 1000) (n : Nat) (ih : EndUpto s n) (i k : Nat) (hlt : i < s.length) (hn : s.length - i ≤ n + 1) (hk : 12 * n + 23 ≤ k) :
    spec_biEnd.l0 k (B s) i 1 = some (endR s (if 0 ≤ Lib.indexByte (s.drop (i + 1)) 62 ∧ labB ((s.drop (i + 1)).take (Lib.indexByte (s.drop (i + 1)) 62).toNat) = true then
        (pF n ((s.drop (i + 1)).drop ((Lib.indexByte (s.drop (i + 1)) 62).toNat + 1))).map fun x => (.lab ((s.drop (i + 1)).take (Lib.indexByte (s.drop (i + 1)) 62).toNat) x.1, x.2)
      else none)) := by
  have hget : ∀ m, (s.drop (i + 1))[m]? = s[i + 1 + m]? := fun m => by rw [List.getElem?_drop]
  have hge := Lib.indexByte_ge (s.drop (i + 1)) 62
  by_cases h7 : 0 ≤ Lib.indexByte (s.drop (i + 1)) 62 ∧ labB ((s.drop (i + 1)).take (Lib.indexByte (s.drop (i + 1)) 62).toNat) = true
  · rw [if_pos h7]
    obtain ⟨j, hj⟩ : ∃ o : Nat, Lib.indexByte (s.drop (i + 1)) 62 = o := ⟨(Lib.indexByte (s.drop (i + 1)) 62).toNat, by omega⟩
    obtain ⟨hj1, hj2⟩ := Lib.indexByte_some hj
    rw [hj, Int.toNat_natCast] at h7 ⊢
    obtain ⟨q1, q2, q3⟩ := labB_facts h7.2
    have hjl : j < (s.drop (i + 1)).length := (List.getElem?_eq_some_iff.mp hj1).1
    rw [List.length_take, Nat.min_eq_left (Nat.le_of_lt hjl)] at q1 q2
    rw [hget] at hj1
    rw [List.length_drop] at hjl
    have hjs : i + 1 + j < s.length := by omega
    have hcj : s[i + 1 + j] = 62 := by rw [List.getElem?_eq_getElem hjs] at hj1; injection hj1
    have hv := ih (i + 2 + j) (k - 2 * (j - 1) - 2) (by omega) (by omega) (by omega)
    have hfin := l0_hit s i j _ hs hlt q1 q2 hjs hcj h7.2 (fun n _ hn => by rw [← hget]; exact hj2 n hn) (k - 2 * (j - 1) - 2) hv (j - 1) 1 k (by omega) (by omega) (by omega)
    refine hfin.trans ?_
    rw [List.drop_drop, show i + 1 + (j + 1) = i + 2 + j from by omega]
    cases pF n (s.drop (i + 2 + j)) <;> rfl
  · rw [if_neg h7, end_none]
    refine l0_no s i hs hlt (fun m hm1 hm2 hm3 hm4 => ?_) 4 1 k (by omega) (by omega) (by omega)
    rw [← hget] at hm4
    by_cases h8 : 0 ≤ Lib.indexByte (s.drop (i + 1)) 62
    · obtain ⟨j, hj⟩ : ∃ o : Nat, Lib.indexByte (s.drop (i + 1)) 62 = o := ⟨(Lib.indexByte (s.drop (i + 1)) 62).toNat, by omega⟩
      obtain ⟨hj1, hj2⟩ := Lib.indexByte_some hj
      rcases Nat.lt_trichotomy m j with hmj | rfl | hmj
      · exact absurd hm4 (hj2 m hmj)
      · rw [hj, Int.toNat_natCast] at h7
        cases hx : labB ((s.drop (i + 1)).take m) with
        | false => rfl
        | true => exact absurd ⟨Int.natCast_nonneg m, hx⟩ h7
      · cases hx : labB ((s.drop (i + 1)).take m) with
        | false => rfl
        | true => exact absurd rfl ((labB_facts hx).2.2 62 (List.mem_of_getElem? (i := j) (by rw [List.getElem?_take_of_lt hmj]; exact hj1)))
    · exact absurd hm4 (Lib.indexByte_none (by omega) m)
theorem end_any (s : List UInt8) (hs : s.length ≤ 1000) : ∀ n, EndUpto s n := by
  intro n
  induction n with
  | zero =>
    intro i k hi hn hk
    have hz : ((B s).size : Int) = s.length := by rw [B_size]
    obtain ⟨k, rfl⟩ : ∃ m, k = m + 1 := ⟨k - 1, by omega⟩
    rw [spec_biEnd.f, if_pos (by omega)]; rfl
  | succ n ih =>
    intro i k hi hn hk
    obtain ⟨k, rfl⟩ : ∃ m, k = m + 1 := ⟨k - 1, by omega⟩
    by_cases hlt : ¬ i < s.length
    · have hz : ((B s).size : Int) = s.length := by rw [B_size]
      rw [spec_biEnd.f, if_pos (by omega), List.drop_eq_nil_of_le (by omega)]; rfl
    replace hlt : i < s.length := by omega
    rw [end_step s hs i k hlt, List.drop_eq_getElem_cons hlt, pF]
    by_cases h1 : s[i] = 84
    · rw [if_pos (show vl s[i] = 84 from by rw [h1]; rfl), if_pos h1]
      simp only [endR, List.length_drop]
      congr 1; omega
    rw [if_neg (show ¬ vl s[i] = 84 from fun h => h1 (vl_inj.mp (h.trans rfl))), if_neg h1]
    by_cases h2 : s[i] = 33
    · rw [if_pos (show vl s[i] = 33 from by rw [h2]; rfl), if_pos h2, ih (i + 1) k (by omega) (by omega) (by omega)]
      cases pF n (s.drop (i + 1)) <;> rfl
    rw [if_neg (show ¬ vl s[i] = 33 from fun h => h2 (vl_inj.mp (h.trans rfl))), if_neg h2]
    by_cases h3 : s[i] = 40
    · rw [if_pos (show vl s[i] = 40 from by rw [h3]; rfl), if_neg (show ¬ s[i] = 60 from by rw [h3]; decide), if_pos h3]
      exact end_conj s hs n ih i k hlt hn (by omega)
    rw [if_neg (show ¬ vl s[i] = 40 from fun h => h3 (vl_inj.mp (h.trans rfl)))]
    by_cases h4 : s[i] = 60
    · rw [if_pos (show vl s[i] = 60 from by rw [h4]; rfl), if_pos h4]
      exact end_lab s hs n ih i k hlt hn (by omega)
    · rw [if_neg (show ¬ vl s[i] = 60 from fun h => h4 (vl_inj.mp (h.trans rfl))), if_neg h4, if_neg h3]; rfl
theorem end_f (s : List UInt8) (hs : s.length ≤ 1000) (n i k : Nat) (h1 : i ≤ s.length) (h2 : s.length - i ≤ n) (h3 : 12 * n + 12 ≤ k) : spec_biEnd.f k (B s) i = some (endR s (pF n (s.drop i))) := end_any s hs n i k h1 h2 h3

end Go.Proofs.Yteepgblpoddcfaa.PDepthOfFormula
