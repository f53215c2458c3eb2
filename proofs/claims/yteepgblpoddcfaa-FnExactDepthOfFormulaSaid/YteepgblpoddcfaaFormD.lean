/- The reference's biParts, biDeep, biIs, DepthOfFormula at a text. -/
import Derived.Test.YteepgblpoddcfaaFormS
namespace Go.Proofs.Yteepgblpoddcfaa.PDepthOfFormula
open Go.RowKit Go.Proofs.YteepgblpoddcfaaW.PrintWords Go.Proofs.YteepgblpoddcfaaW.PrintLast Go.Proofs.YteepgblpoddcfaaW.PrintMore
set_option linter.unusedVariables false
set_option linter.unusedSimpArgs false

theorem w_one (x : Nat) (h : x ≤ 100000) : wrap64 ((x : Int) + 1) = ((x + 1 : Nat) : Int) := by rw [w_add _ _ (by omega) (by omega) (by omega)]; omega
theorem l0_lab (r t l : List UInt8) (hs : (60 :: (r ++ l ++ 62 :: t)).length ≤ 1000) : ∀ (k : Nat), l.length + 1 ≤ k → (∀ c, c ∈ l → c ≠ 62) → spec_biParts.l0 k (B (60 :: (r ++ l ++ 62 :: t))) ((1 + r.length : Nat) : Int) = some (B (r ++ l), [B t]) := by
  intro k
  induction l generalizing r k with
  | nil =>
    intro hk _
    obtain ⟨k, rfl⟩ : ∃ m, k = m + 1 := ⟨k - 1, by simp at hk; omega⟩
    have hz : ((B (60 :: (r ++ [] ++ 62 :: t))).size : Int) = r.length + t.length + 2 := by rw [B_size]; simp; omega
    have hg : bt (B (60 :: (r ++ [] ++ 62 :: t))) ((1 + r.length : Nat) : Int) = 62 := by
      rw [bt_get _ _ (by simp; omega)]
      show vl _ = vl 62
      congr 1
      simp [Nat.add_comm 1]
    have e1 : (B (60 :: (r ++ [] ++ 62 :: t))).extract 1 (1 + r.length) = B (r ++ []) := by rw [B_extract]; congr 1; simp [Nat.add_comm 1]
    have e2 : (B (60 :: (r ++ [] ++ 62 :: t))).extract (1 + r.length + 1) (B (60 :: (r ++ [] ++ 62 :: t))).size = B t := by
      rw [B_extract, B_size]; congr 1
      rw [List.take_of_length_le (Nat.le_refl _), List.append_nil, show (60 :: (r ++ 62 :: t)) = (60 :: r) ++ (62 :: t) from rfl, show 1 + r.length + 1 = (60 :: r).length + 1 from by simp; omega, List.drop_append]
      simp
    simp only [List.append_nil, List.length_cons, List.length_append] at hs
    rw [spec_biParts.l0, w_one _ (by omega), if_pos (by omega), if_pos (by omega), if_pos hg, if_pos (by omega), if_pos (by omega), if_pos (by omega), if_pos (by omega), Int.toNat_natCast, Int.toNat_natCast, e1, e2]
  | cons a l ih =>
    intro hk h
    obtain ⟨k, rfl⟩ : ∃ m, k = m + 1 := ⟨k - 1, by simp at hk; omega⟩
    have hz : ((B (60 :: (r ++ a :: l ++ 62 :: t))).size : Int) = r.length + l.length + t.length + 3 := by rw [B_size]; simp; omega
    have hg : bt (B (60 :: (r ++ a :: l ++ 62 :: t))) ((1 + r.length : Nat) : Int) = vl a := by
      rw [bt_get _ _ (by simp; omega)]
      congr 1
      simp [Nat.add_comm 1]
    have hi := ih (r ++ [a]) (by simpa using hs) k (by simp at hk; omega) (fun c hc => h c (by simp [hc]))
    have ha : ¬ vl a = 62 := fun e => h a (by simp) (vl_inj.mp (e.trans rfl))
    simp only [List.length_cons, List.length_append] at hs
    rw [spec_biParts.l0, w_one _ (by omega), if_pos (by omega), if_pos (by omega), hg, if_neg ha]
    simpa [Nat.add_assoc] using hi

theorem parts_text : ∀ (f : Fm) (k : Nat), FWf f → f.text.length ≤ 1000 → 12 * f.text.length + 24 ≤ k → spec_biParts.f k (B f.text) = some (B f.lb, f.kids.map fun g => B g.text)
  | .tt, k, hw, hl, hk => by rfl
  | .neg f, k, hw, hl, hk => by
    have hz : ((B (33 :: f.text)).size : Int) = f.text.length + 1 := by rw [B_size]; simp
    have e : (B (33 :: f.text)).extract 1 (B (33 :: f.text)).size = B f.text := by rw [B_extract, B_size]; simp
    show spec_biParts.f k (B (33 :: f.text)) = _
    unfold spec_biParts.f
    rw [if_pos (by omega), if_pos (by rfl), if_pos (by omega), e]; rfl
  | .lab l f, k, hw, hl, hk => by
    have hz : ((B (60 :: (l ++ 62 :: f.text))).size : Int) = l.length + f.text.length + 2 := by rw [B_size]; simp; omega
    have h := l0_lab [] f.text l hl k (by simp [Fm.text] at hk; omega) (labB_facts hw.1).2.2
    show spec_biParts.f k (B (60 :: (l ++ 62 :: f.text))) = _
    have hb0 : bt (B (60 :: (l ++ 62 :: f.text))) 0 = 60 := rfl
    unfold spec_biParts.f
    rw [if_pos (by omega), hb0, if_neg (by decide), if_neg (by decide), if_pos rfl]
    exact h
  | .conj f g, k, hw, hl, hk => by
    simp only [Fm.text] at hl hk ⊢
    obtain ⟨s, hs⟩ : ∃ s, s = 40 :: (f.text ++ 38 :: (g.text ++ [41])) := ⟨_, rfl⟩
    have hsl : s.length = f.text.length + g.text.length + 3 := by rw [hs]; simp; omega
    have hsd : s.drop 1 = f.text ++ 38 :: (g.text ++ [41]) := by rw [hs]; rfl
    have hb0 : bt (B s) 0 = 40 := by rw [hs]; rfl
    rw [← hs] at hl hk ⊢
    have he := end_f s hl s.length 1 k (by omega) (by omega) (by omega)
    rw [hsd, pF_text f s.length _ hw.1 (by omega)] at he
    have er : endR s (some (f, 38 :: (g.text ++ [41]))) = ((1 + f.text.length : Nat) : Int) := by simp only [endR, List.length_cons, List.length_append, List.length_nil, hsl]; omega
    have hz : ((B s).size : Int) = ((f.text.length + g.text.length + 3 : Nat) : Int) := by rw [B_size, hsl]
    have w2 : wrap64 (((f.text.length + g.text.length + 3 : Nat) : Int) - 1) = ((f.text.length + g.text.length + 2 : Nat) : Int) := by rw [wrap_id (by omega) (by omega)]; omega
    have e1 : (B s).extract 1 (1 + f.text.length) = B f.text := by rw [B_extract, hs]; congr 1; simp [Nat.add_comm 1]
    have e2 : (B s).extract (1 + f.text.length + 1) (f.text.length + g.text.length + 2) = B g.text := by
      rw [B_extract, hs]; congr 1
      rw [show (40 :: (f.text ++ 38 :: (g.text ++ [41]))) = (40 :: (f.text ++ [38])) ++ (g.text ++ [41]) from by simp, show f.text.length + g.text.length + 2 = (40 :: (f.text ++ [38])).length + g.text.length from by simp; omega, List.take_append, show 1 + f.text.length + 1 = (40 :: (f.text ++ [38])).length from by simp; omega]
      simp
    unfold spec_biParts.f
    rw [er] at he
    have he' : spec_biEnd.f k (B s) 1 = some ((1 + f.text.length : Nat) : Int) := he
    rw [if_pos (by omega), hb0, if_neg (by decide), if_pos rfl, he', Option.bind_some]
    rw [w_one _ (by omega), hz, w2, if_pos (by omega), if_pos (by omega), if_pos (by omega), if_pos (by omega), if_pos (by omega), Int.toNat_natCast, Int.toNat_natCast, Int.toNat_natCast, e1, e2]
    rfl

theorem fdepth_le : ∀ f : Fm, f.depth ≤ f.text.length
  | .tt => by simp [Fm.depth]
  | .neg f => by have := fdepth_le f; simp [Fm.depth, Fm.text]; omega
  | .lab l f => by have := fdepth_le f; simp [Fm.depth, Fm.text]; omega
  | .conj f g => by have := fdepth_le f; have := fdepth_le g; simp [Fm.depth, Fm.text]; omega
theorem most_max (x y : Nat) : spec_l1Most.f (x : Int) (y : Int) = some ((max x y : Nat) : Int) := by
  unfold spec_l1Most.f
  split <;> (congr 1; omega)
theorem deep_round {k : Nat} {s : ByteArray} {x : Nat} {xs : List ByteArray} {i : Nat} (hi : i < xs.length) (hl : xs.length ≤ 1000) {y : Nat} (h : spec_biDeep.f k (xs.getD i ByteArray.empty) = some (y : Int)) :
    spec_biDeep.l0 (k + 1) s x xs xs.length i = spec_biDeep.l0 k s ((max x y : Nat) : Int) xs xs.length ((i + 1 : Nat) : Int) := by
  rw [spec_biDeep.l0, if_pos (by omega), if_pos (by omega), if_pos (by omega), show rdOf ByteArray.empty xs (i : Int) = xs.getD i ByteArray.empty from rfl, h, Option.bind_some, most_max, Option.bind_some, w_one _ (by omega)]
theorem deep_end {k : Nat} {s : ByteArray} {x : Nat} {xs : List ByteArray} {i : Nat} (hi : i = xs.length) (hx : x ≤ 10000) :
    spec_biDeep.l0 (k + 1) s x xs xs.length i = some (((if s.toList = [] then x else x + 1 : Nat)) : Int) := by
  rw [spec_biDeep.l0, if_neg (by omega), w_one _ (by omega)]
  split <;> rfl
theorem deep_text : ∀ (f : Fm) (k : Nat), FWf f → f.text.length ≤ 1000 → 12 * f.text.length + 40 ≤ k → spec_biDeep.f k (B f.text) = some (f.depth : Int)
  | .tt, k, hw, hl, hk => by
    obtain ⟨k, rfl⟩ : ∃ m, k = m + 2 := ⟨k - 2, by omega⟩
    rw [spec_biDeep.f, parts_text _ _ hw hl (by omega), Option.bind_some]
    exact (deep_end (s := B []) (x := 0) (xs := []) (i := 0) rfl (by omega)).trans (by rw [B_toList]; rfl)
  | .neg f, k, hw, hl, hk => by
    obtain ⟨k, rfl⟩ : ∃ m, k = m + 3 := ⟨k - 3, by omega⟩
    have hd := fdepth_le f
    have hl' : f.text.length + 1 ≤ 1000 := by simpa [Fm.text] using hl
    have hk' : 12 * (f.text.length + 1) + 40 ≤ k + 3 := by simpa [Fm.text] using hk
    rw [spec_biDeep.f, parts_text _ _ hw hl (by omega), Option.bind_some]
    have r1 := deep_round (k := k + 1) (s := B []) (x := 0) (xs := [B f.text]) (i := 0) (by simp) (by simp) (deep_text f (k + 1) hw (by omega) (by omega))
    exact r1.trans ((deep_end (i := 1) rfl (by omega)).trans (by rw [B_toList, if_pos rfl, Nat.zero_max]; rfl))
  | .lab l f, k, hw, hl, hk => by
    obtain ⟨k, rfl⟩ : ∃ m, k = m + 3 := ⟨k - 3, by omega⟩
    have hd := fdepth_le f
    have hn := (labB_facts hw.1).1
    have hl' : l.length + f.text.length + 2 ≤ 1000 := by simp [Fm.text] at hl; omega
    have hk' : 12 * (l.length + f.text.length + 2) + 40 ≤ k + 3 := by simp [Fm.text] at hk; omega
    rw [spec_biDeep.f, parts_text _ _ hw hl (by omega), Option.bind_some]
    have r1 := deep_round (k := k + 1) (s := B l) (x := 0) (xs := [B f.text]) (i := 0) (by simp) (by simp) (deep_text f (k + 1) hw.2 (by omega) (by omega))
    exact r1.trans ((deep_end (i := 1) rfl (by omega)).trans (by rw [B_toList, if_neg (by intro h; rw [h] at hn; simp at hn), Nat.zero_max]; rfl))
  | .conj f g, k, hw, hl, hk => by
    obtain ⟨k, rfl⟩ : ∃ m, k = m + 4 := ⟨k - 4, by omega⟩
    have hd := fdepth_le f
    have hd2 := fdepth_le g
    have hl' : f.text.length + g.text.length + 3 ≤ 1000 := by simp [Fm.text] at hl; omega
    have hk' : 12 * (f.text.length + g.text.length + 3) + 40 ≤ k + 4 := by simp [Fm.text] at hk; omega
    rw [spec_biDeep.f, parts_text _ _ hw hl (by omega), Option.bind_some]
    have r1 := deep_round (k := k + 2) (s := B []) (x := 0) (xs := [B f.text, B g.text]) (i := 0) (by simp) (by simp) (deep_text f (k + 2) hw.1 (by omega) (by omega))
    have r2 := deep_round (k := k + 1) (s := B []) (x := max 0 f.depth) (xs := [B f.text, B g.text]) (i := 1) (by simp) (by simp) (deep_text g (k + 1) hw.2 (by omega) (by omega))
    exact r1.trans (r2.trans ((deep_end (i := 2) rfl (by omega)).trans (by rw [B_toList, if_pos rfl, Nat.zero_max]; rfl)))

theorem is_f (l : List UInt8) (k : Nat) (hk : 6000 ≤ k) : spec_biIs.f k (B l) = some (fmOf l).isSome := by
  have hz : ((B l).size : Int) = l.length := by rw [B_size]
  unfold spec_biIs.f fmOf
  rw [hz]
  by_cases hl : l.length ≤ 400
  · rw [if_pos (by omega), if_pos hl]
    have he := end_f l (by omega) l.length 0 k (by omega) (by omega) (by omega)
    rw [List.drop_zero] at he
    rw [show (0 : Int) = ((0 : Nat) : Int) from rfl, he]
    simp only [Option.bind_some]
    rcases hp : pF l.length l with _ | ⟨f, r⟩
    · simp [endR]
    · have hl2 := congrArg List.length (pF_good _ _ _ _ hp).1
      rw [List.length_append] at hl2
      cases r with
      | nil => simp [endR]
      | cons c r =>
        simp only [List.length_cons] at hl2
        have : ¬ (l.length : Int) - ((r.length + 1 : Nat) : Int) = (l.length : Int) := by omega
        simpa [endR] using this
  · rw [if_neg (by omega), if_neg hl]; rfl
def fval (l : List UInt8) : Int := match fmOf l with | some f => f.depth | none => 0
theorem spec_val (l : List UInt8) : spec_DepthOfFormula.f 6000 (B l) = some (fval l, (fmOf l).isSome) := by
  unfold spec_DepthOfFormula.f fval
  rw [is_f l 6000 (by omega), Option.bind_some]
  rcases h : fmOf l with _ | f
  · rfl
  · obtain ⟨h1, h2, h3⟩ := fmOf_good h
    rw [h1] at h3 ⊢
    simp only [Option.isSome_some, if_true]
    rw [deep_text f 6000 h2 (by omega) (by omega)]; rfl

end Go.Proofs.Yteepgblpoddcfaa.PDepthOfFormula
