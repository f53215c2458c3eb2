/- Canonical names: as the program gives them, by a table of letters, and as the reference gives them, which renames. No program in sight. -/
import Derived.Test.YtfcadppidgkoaaaRenP
namespace Go.Proofs.Ytfcadppidgkoaaa
open Go.RowKit Go.Proofs.YtfcadppidgkoaaaW.PrintWords Go.Proofs.YtfcadppidgkoaaaW.PrintMore
set_option linter.unusedVariables false
set_option linter.unusedSimpArgs false

def eu (e : UInt8 → UInt8) (x y : UInt8) : UInt8 → UInt8 := fun c => if c = x then y else e c
def canI : Tm → (UInt8 → UInt8) → (UInt8 → Bool) → Option (Tm × (UInt8 → Bool))
  | .leaf k a b, _, p => some (.leaf k a b, p)
  | .un k a b t, e, p =>
    if k = 63 ∨ k = 35 then
      (freshOf p).bind fun c => (canI t (eu e b c) (orS p (eqS c))).map fun r => (.un k (if k = 63 then e a else a) c r.1, r.2)
    else (canI t e p).map fun r => (.un k (if k = 33 ∨ k = 61 then e a else a) (if k = 33 ∨ k = 61 then e b else b) r.1, r.2)
  | .bin k a b t u, e, p => (canI t e p).bind fun r => (canI u e r.2).map fun r2 => (.bin k a b r.1 r2.1, r2.2)
def canS : Nat → Tm → List UInt8 → Tm × List UInt8
  | 0, t, s => (t, s)
  | _ + 1, .leaf k a b, s => (.leaf k a b, s)
  | n + 1, .un k a b t, s =>
    if k = 63 ∨ k = 35 then
      if 122 < vl (freshB (inS s)) then (.un k a b t, [0])
      else (.un k a (freshB (inS s)) (canS n (renS 100 t b (freshB (inS s))) (insL (freshB (inS s)) s)).1, (canS n (renS 100 t b (freshB (inS s))) (insL (freshB (inS s)) s)).2)
    else (.un k a b (canS n t s).1, (canS n t s).2)
  | n + 1, .bin k a b t u, s => (.bin k a b (canS n t s).1 (canS n u (canS n t s).2).1, (canS n u (canS n t s).2).2)

theorem canI_congr : ∀ (t : Tm) (e e' : UInt8 → UInt8) (p : UInt8 → Bool), (∀ c, t.fr c = true → e c = e' c) → canI t e p = canI t e' p
  | .leaf _ _ _, _, _, _, _ => rfl
  | .un k a b t, e, e', p, h => by
    simp only [canI]
    by_cases h2 : k = 63 ∨ k = 35
    · rw [if_pos h2, if_pos h2]
      have hk1 : ¬ (k = 33 ∨ k = 61) := by rcases h2 with rfl | rfl <;> decide
      have ha : (if k = 63 then e a else a) = (if k = 63 then e' a else a) := by
        by_cases h3 : k = 63
        · rw [if_pos h3, if_pos h3]
          exact h a (by simp only [Tm.fr, if_neg hk1, if_pos h3, orS, eqS_self, Bool.or_true])
        · rw [if_neg h3, if_neg h3]
      rw [ha]
      congr 1
      funext c
      rw [canI_congr t (eu e b c) (eu e' b c) _ fun d hd => by
        unfold eu
        by_cases hdb : d = b
        · rw [if_pos hdb, if_pos hdb]
        · rw [if_neg hdb, if_neg hdb]
          refine h d ?_
          have hm : minusS t.fr (eqS b) d = true := by simp [minusS, eqS, hd, hdb]
          by_cases h3 : k = 63
          · simp only [Tm.fr, if_neg hk1, if_pos h3, orS, hm, Bool.true_or]
          · simp only [Tm.fr, if_neg hk1, if_neg h3, if_pos (h2.resolve_left h3), hm]]
    · rw [if_neg h2, if_neg h2]
      have h3 : ¬ k = 63 := fun q => h2 (.inl q)
      have h4 : ¬ k = 35 := fun q => h2 (.inr q)
      by_cases h1 : k = 33 ∨ k = 61
      · simp only [if_pos h1]
        have f : ∀ c, (Tm.un k a b t).fr c = (t.fr c || (eqS a c || eqS b c)) := fun c => by simp only [Tm.fr, if_pos h1, orS]
        rw [canI_congr t e e' p fun c hc => h c (by rw [f, hc, Bool.true_or]), h a (by rw [f, eqS_self]; simp), h b (by rw [f, eqS_self]; simp)]
      · simp only [if_neg h1]
        rw [canI_congr t e e' p fun c hc => h c (by simp only [Tm.fr, if_neg h1, if_neg h3, if_neg h4, hc])]
  | .bin k a b t u, e, e', p, h => by
    simp only [canI]
    rw [canI_congr t e e' p fun c hc => h c (by simp only [Tm.fr, orS, hc, Bool.true_or])]
    congr 1
    funext r
    rw [canI_congr u e e' r.2 fun c hc => h c (by simp only [Tm.fr, orS, hc, Bool.or_true])]
theorem renS_size (n : Nat) : ∀ (t : Tm) (old name : UInt8), (renS n t old name).size = t.size := by
  induction n with
  | zero => intro t old name; rfl
  | succ n ih =>
    intro t old name
    simp only [renS]
    split
    · rfl
    cases t with
    | leaf => rfl
    | un k a b t =>
      simp only
      repeat' split
      all_goals simp only [Tm.size, ih]
    | bin k a b t u => simp only [Tm.size, ih]
theorem eu_same (e : UInt8 → UInt8) (x : UInt8) : eu e x (e x) = e := by
  funext c; unfold eu; split
  · rename_i h; rw [h]
  · rfl
theorem eu_no (t : Tm) (e : UInt8 → UInt8) (x y : UInt8) (p : UInt8 → Bool) (h : t.fr x = false) : canI t (eu e x y) p = canI t e p :=
  canI_congr t _ _ p fun c hc => by
    unfold eu
    rw [if_neg]
    rintro rfl
    rw [h] at hc
    cases hc
theorem can_ren (n : Nat) : ∀ (t : Tm) (old name : UInt8) (e : UInt8 → UInt8) (p : UInt8 → Bool), t.size ≤ n → Enough t old name → canI (renS n t old name) e p = canI t (eu e old (e name)) p := by
  induction n with
  | zero => intro t _ _ _ _ h; have := t.size_pos; omega
  | succ n ih =>
    intro t old name e p hs hE
    simp only [renS]
    by_cases h0 : old = name ∨ t.fr old = false
    · rw [if_pos h0]
      rcases h0 with rfl | h0
      · rw [eu_same]
      · rw [eu_no t e old _ p h0]
    rw [if_neg h0]
    have hon : old ≠ name := fun q => h0 (.inl q)
    cases t with
    | leaf => rfl
    | un k a b t =>
      simp only [Tm.size] at hs
      have hE' := hE.un
      have swe : ∀ c, e (swp c old name) = eu e old (e name) c := fun c => by unfold swp eu; split <;> rfl
      simp only
      by_cases h1 : k = 33 ∨ k = 61
      · have h2 : ¬ (k = 63 ∨ k = 35) := by rcases h1 with rfl | rfl <;> decide
        rw [if_pos h1]
        simp only [canI, if_neg h2, if_pos h1]
        rw [ih t old name e p (by omega) hE', swe, swe]
      rw [if_neg h1]
      by_cases h2 : k = 63 ∨ k = 35
      · rw [if_pos h2]
        have swa : (if k = 63 then e (if k = 63 then swp a old name else a) else (if k = 63 then swp a old name else a)) = (if k = 63 then eu e old (e name) a else a) := by
          by_cases h3 : k = 63
          · rw [if_pos h3, if_pos h3, if_pos h3, swe]
          · rw [if_neg h3, if_neg h3, if_neg h3]
        by_cases h3 : b = old
        · rw [if_pos h3]
          simp only [canI, if_pos h2, swa]
          have : ∀ c, eu e b c = eu (eu e old (e name)) b c := fun c => by funext d; unfold eu; split; rfl; rename_i q; rw [if_neg (h3 ▸ q)]
          congr 1; funext c; rw [this c]
        rw [if_neg h3]
        by_cases h4 : b = name ∧ t.fr old = true
        · rw [if_pos h4]
          obtain ⟨z1, z2, z3⟩ := hE.cap h4.1 n
          generalize freshB (tkS t old name) = z at z1 z2 z3
          have zo : z ≠ old := by rintro rfl; rw [tkS_old] at z1; cases z1
          have zn : z ≠ name := by rintro rfl; rw [tkS_name] at z1; cases z1
          have zf : t.fr z = false := by
            cases hz : t.fr z with
            | false => rfl
            | true => rw [tkS_fr hz] at z1; cases z1
          simp only [canI, if_pos h2, swa]
          congr 1; funext c
          have hsz := renS_size n t name z
          rw [ih _ old name (eu e z c) _ (by rw [hsz]; omega) (z3 hsz), ih t name z _ _ (by omega) z2]
          have e1 : eu (eu (eu e z c) old (eu e z c name)) name (eu (eu e z c) old (eu e z c name) z) = eu (eu (eu e old (e name)) b c) z c := by
            funext d
            unfold eu
            simp only [if_neg zo, if_pos, if_neg (Ne.symm zn), h4.1]
            by_cases d1 : d = name
            · rw [if_pos d1, if_pos d1]; split <;> rfl
            · rw [if_neg d1, if_neg d1]
              by_cases d2 : d = old
              · rw [if_pos d2, if_pos d2, if_neg (by rw [d2]; exact Ne.symm zo)]
              · rw [if_neg d2, if_neg d2]
          rw [e1, eu_no t _ z c _ zf]
        · rw [if_neg h4]
          simp only [canI, if_pos h2, swa]
          congr 1; funext c
          rw [ih t old name (eu e b c) _ (by omega) hE']
          by_cases h5 : b = name
          · have hfo : t.fr old = false := by
              cases hz : t.fr old with
              | false => rfl
              | true => exact absurd ⟨h5, hz⟩ h4
            rw [eu_no t (eu e b c) old _ _ hfo]
            have e1 : eu (eu e old (e name)) b c = eu (eu e b c) old (e name) := by
              funext d; unfold eu
              by_cases d1 : d = b
              · rw [if_pos d1, if_neg (by rw [d1]; exact h3), if_pos d1]
              · rw [if_neg d1, if_neg d1]
            rw [e1, eu_no t (eu e b c) old _ _ hfo]
          · have e1 : eu (eu e b c) old (eu e b c name) = eu (eu e old (e name)) b c := by
              funext d; unfold eu
              rw [if_neg (Ne.symm h5)]
              by_cases d1 : d = b
              · rw [if_neg (by rw [d1]; exact h3), if_pos d1, if_pos d1]
              · rw [if_neg d1, if_neg d1]
            rw [e1]
      · rw [if_neg h2]
        simp only [canI, if_neg h2, if_neg h1]
        rw [ih t old name e p (by omega) hE']
    | bin k a b t u =>
      simp only [Tm.size] at hs
      simp only [canI]
      rw [ih t old name e p (by omega) hE.binl]
      congr 1; funext r
      rw [ih u old name e r.2 (by omega) hE.binr]
theorem mem_insL {c d : UInt8} : ∀ {s : List UInt8}, d ∈ insL c s ↔ d = c ∨ d ∈ s
  | [] => by simp [insL]
  | x :: s => by
    rw [insL_cons]
    split
    · rw [List.mem_cons, mem_insL, List.mem_cons]
      constructor
      · rintro (h | h | h)
        · exact .inr (.inl h)
        · exact .inl h
        · exact .inr (.inr h)
      · rintro (h | h | h)
        · exact .inr (.inl h)
        · exact .inl h
        · exact .inr (.inr h)
    split
    · rename_i h; subst h; simp
    · simp
theorem canS_zero (n : Nat) : ∀ (t : Tm) (s : List UInt8), (0 : UInt8) ∈ s → (0 : UInt8) ∈ (canS n t s).2 := by
  induction n with
  | zero => intro t s h; exact h
  | succ n ih =>
    intro t s h
    cases t with
    | leaf => exact h
    | un k a b t =>
      simp only [canS]
      split
      · split
        · simp
        · exact ih _ _ (mem_insL.mpr (.inr h))
      · exact ih _ _ h
    | bin k a b t u => exact ih _ _ (ih _ _ h)
theorem HiB.of {L : List UInt8} {p q : UInt8 → Bool} (h : HiB L p) (hq : ∀ c, q c = true → p c = true ∨ c ∈ L ∨ vl c < 128) : HiB L q := fun c hc hv => by
  rcases hq c hc with h1 | h1 | h1
  · exact h c h1 hv
  · exact h1
  · omega
theorem can_same (n : Nat) : ∀ (t : Tm) (s : List UInt8) (p : UInt8 → Bool) (L : List UInt8), t.size ≤ n → HiB L t.fr → L.length + t.size ≤ 61 → (∀ c, isLet c = true → inS s c = p c) →
    match canI t id p with
    | some r => (canS n t s).1 = r.1 ∧ (∀ c, isLet c = true → inS (canS n t s).2 c = r.2 c) ∧ ((0 : UInt8) ∉ s → (0 : UInt8) ∉ (canS n t s).2)
    | none => (0 : UInt8) ∈ (canS n t s).2 := by
  induction n with
  | zero => intro t _ _ _ h; have := t.size_pos; omega
  | succ n ih =>
    intro t s p L hs hL hl hp
    cases t with
    | leaf => exact ⟨rfl, hp, id⟩
    | un k a b t =>
      simp only [Tm.size] at hs hl
      by_cases h2 : k = 63 ∨ k = 35
      · simp only [canI, canS, if_pos h2, id_eq]
        have hfo : freshOf (inS s) = freshOf p := freshOf_congr hp
        cases hf : freshOf p with
        | none =>
          have h122 : 122 < vl (freshB (inS s)) := by have := freshB_beyond (hfo.trans hf); omega
          rw [if_pos h122]
          simp
        | some c =>
          obtain ⟨hc1, hc2⟩ := freshOf_let hf
          have hB : freshB (inS s) = c := freshB_of (hfo.trans hf)
          have h122 : ¬ 122 < vl c := by simp [isLet] at hc1; omega
          have hv128 : vl c < 128 := by omega
          rw [hB, if_neg h122]
          simp only [Option.bind_some]
          have hz := renS_size 100 t b c
          have hL1 : HiB (b :: L) t.fr := fun d hd hv => by
            rcases fr_un (k := k) (a := a) (b := b) hd with h | h
            · exact List.mem_cons_of_mem _ (hL d h hv)
            · rw [h]; simp
          have hLr : HiB (b :: L) (renS 100 t b c).fr := hL1.of fun d hd => by
            rcases fr_ren 100 t b c d hd with h | h
            · exact .inl h
            · right; right; rw [h]; exact hv128
          have hE : Enough t b c := ⟨b :: L, hL1.of fun d hd => by
            rcases tkS_or hd with h | h | h
            · exact .inl h
            · right; left; rw [h]; simp
            · right; right; rw [h]; exact hv128, by simp only [List.length_cons]; omega⟩
          have hp2 : ∀ d, isLet d = true → inS (insL c s) d = orS p (eqS c) d := fun d hd => by
            have h1 := hp d hd
            rw [Bool.eq_iff_iff] at h1 ⊢
            simp only [inS, orS, eqS, List.contains_iff_mem, mem_insL, Bool.or_eq_true, beq_iff_eq] at h1 ⊢
            rw [h1]
            exact Or.comm
          have key := ih (renS 100 t b c) (insL c s) (orS p (eqS c)) (b :: L) (by rw [hz]; omega) hLr (by rw [hz, List.length_cons]; omega) hp2
          rw [can_ren 100 t b c id _ (by omega) hE] at key
          have h0 : (0 : UInt8) ∉ s → (0 : UInt8) ∉ insL c s := fun h q => by
            rcases mem_insL.mp q with q | q
            · rw [← q] at hc1; revert hc1; decide
            · exact h q
          simp only [id_eq] at key
          cases hr : canI t (eu id b c) (orS p (eqS c)) with
          | none => rw [hr] at key; simpa using key
          | some r =>
            rw [hr] at key
            obtain ⟨k1, k2, k3⟩ := key
            have ha : (if k = 63 then a else a) = a := by split <;> rfl
            simp only [Option.map_some, ha]
            exact ⟨by rw [k1], k2, fun h => k3 (h0 h)⟩
      · have key := ih t s p L (by omega) (hL.of fun d hd => by
          rcases fr_un (k := k) (a := a) (b := b) hd with h | h
          · exact .inl h
          · left
            by_cases h1 : k = 33 ∨ k = 61
            · simp only [Tm.fr, if_pos h1, orS, hd, Bool.true_or]
            · simp only [Tm.fr, if_neg h1, if_neg (fun q => h2 (.inl q)), if_neg (fun q => h2 (.inr q)), hd]) (by omega) hp
        have ha : (if k = 33 ∨ k = 61 then a else a) = a := by split <;> rfl
        have hb : (if k = 33 ∨ k = 61 then b else b) = b := by split <;> rfl
        simp only [canI, canS, if_neg h2, id_eq, ha, hb]
        cases hr : canI t id p with
        | none => rw [hr] at key; simpa using key
        | some r =>
          rw [hr] at key
          simp only [Option.map_some]
          exact ⟨by rw [key.1], key.2.1, key.2.2⟩
    | bin k a b t u =>
      simp only [Tm.size] at hs hl
      have k1 := ih t s p L (by omega) (hL.of fun d hd => .inl (by simp only [Tm.fr, orS, hd, Bool.true_or])) (by omega) hp
      simp only [canI, canS]
      cases hr : canI t id p with
      | none =>
        rw [hr] at k1
        simp only [Option.bind_none]
        exact canS_zero n _ _ k1
      | some r =>
        rw [hr] at k1
        obtain ⟨k1, k2, k3⟩ := k1
        have k4 := ih u (canS n t s).2 r.2 L (by omega) (hL.of fun d hd => .inl (by simp only [Tm.fr, orS, hd, Bool.or_true])) (by omega) k2
        simp only [Option.bind_some]
        cases hr2 : canI u id r.2 with
        | none => rw [hr2] at k4; simpa using k4
        | some r2 =>
          rw [hr2] at k4
          simp only [Option.map_some]
          exact ⟨by rw [k1, k4.1], k4.2.1, fun h => k4.2.2 (k3 h)⟩
theorem canI_wf : ∀ (t : Tm) (e : UInt8 → UInt8) (p : UInt8 → Bool) (r : Tm × (UInt8 → Bool)), Wf isLet t → (∀ c, isLet c = true → isLet (e c) = true) → canI t e p = some r → Wf isLet r.1 ∧ r.1.size = t.size ∧ r.1.text.length = t.text.length
  | .leaf k a b, e, p, r, hw, _, h => by simp only [canI, Option.some.injEq] at h; subst h; exact ⟨hw, rfl, rfl⟩
  | .un k a b t, e, p, r, hw, he, h => by
    obtain ⟨hw1, hw2⟩ := hw
    simp only [canI] at h
    by_cases h2 : k = 63 ∨ k = 35
    · rw [if_pos h2] at h
      obtain ⟨c, hc, h⟩ := Option.bind_eq_some_iff.mp h
      obtain ⟨v, hv, rfl⟩ := Option.map_eq_some_iff.mp h
      have hcl := (freshOf_let hc).1
      obtain ⟨q1, q2, q3⟩ := canI_wf t (eu e b c) _ v hw2 (fun d hd => by unfold eu; split; exact hcl; exact he d hd) hv
      refine ⟨⟨?_, q1⟩, by simp only [Tm.size, q2], un_len _ _ _ _ _ _ _ _ rfl q3⟩
      rcases hw1 with ⟨h1, h3, h4⟩ | ⟨h1, h3, h4⟩ | ⟨h1, h3, h4⟩
      · have hk : k = 63 := by rcases h2 with h | h; exact h; subst h; exact absurd h1 (by decide)
        exact .inl ⟨h1, by rw [if_pos hk]; exact he a h3, hcl⟩
      · exact .inr (.inl ⟨h1, by rw [if_neg (by rw [h1]; decide)]; exact h3, hcl⟩)
      · rcases h1 with rfl | rfl <;> exact absurd h2 (by decide)
    · rw [if_neg h2] at h
      obtain ⟨v, hv, rfl⟩ := Option.map_eq_some_iff.mp h
      obtain ⟨q1, q2, q3⟩ := canI_wf t e p v hw2 he hv
      refine ⟨⟨?_, q1⟩, by simp only [Tm.size, q2], un_len _ _ _ _ _ _ _ _ rfl q3⟩
      rcases hw1 with ⟨h1, h3, h4⟩ | ⟨h1, h3, h4⟩ | ⟨h1, h3, h4⟩
      · have hk : k = 33 ∨ k = 61 := by
          rcases h1 with h | h | h
          · exact .inl h
          · exact absurd (.inl h) h2
          · exact .inr h
        exact .inl ⟨h1, by rw [if_pos hk]; exact he a h3, by rw [if_pos hk]; exact he b h4⟩
      · exact absurd (.inr h1) h2
      · have hk : ¬ (k = 33 ∨ k = 61) := by rcases h1 with rfl | rfl <;> decide
        exact .inr (.inr ⟨h1, by rw [if_neg hk]; exact h3, by rw [if_neg hk]; exact h4⟩)
  | .bin k a b t u, e, p, r, hw, he, h => by
    obtain ⟨hw0, hwa, hwb, hw1, hw2⟩ := hw
    simp only [canI] at h
    obtain ⟨v, hv, h⟩ := Option.bind_eq_some_iff.mp h
    obtain ⟨v2, hv2, rfl⟩ := Option.map_eq_some_iff.mp h
    obtain ⟨q1, q2, q3⟩ := canI_wf t e p v hw1 he hv
    obtain ⟨r1, r2, r3⟩ := canI_wf u e v.2 v2 hw2 he hv2
    exact ⟨⟨hw0, hwa, hwb, q1, r1⟩, by simp only [Tm.size, q2, r2], bin_len _ _ _ _ _ _ _ q3 r3⟩
theorem canS_wf {P : UInt8 → Bool} (hP : ∀ p, P (freshB p) = true) (n : Nat) : ∀ (t : Tm) (s : List UInt8), Wf P t → (canS n t s).1.size = t.size ∧ Wf P (canS n t s).1 ∧ (canS n t s).1.text.length = t.text.length ∧ (canS n t s).2.length ≤ s.length + t.size := by
  induction n with
  | zero => intro t s hw; exact ⟨rfl, hw, rfl, Nat.le_add_right _ _⟩
  | succ n ih =>
    intro t s hw
    cases t with
    | leaf => exact ⟨rfl, hw, rfl, Nat.le_add_right _ _⟩
    | un k a b t =>
      obtain ⟨hw1, hw2⟩ := hw
      simp only [canS]
      split
      · rename_i h2
        split
        · exact ⟨rfl, ⟨hw1, hw2⟩, rfl, by simp only [List.length_cons, List.length_nil, Tm.size]; omega⟩
        · obtain ⟨z1, z2, z3⟩ := renS_wf hP 100 t b (freshB (inS s)) (hP _) hw2
          obtain ⟨q1, q2, q3, q4⟩ := ih (renS 100 t b (freshB (inS s))) (insL (freshB (inS s)) s) z2
          refine ⟨by simp only [Tm.size, q1, z1], ⟨?_, q2⟩, un_len _ _ _ _ _ _ _ _ rfl (q3.trans z3), ?_⟩
          · rcases hw1 with ⟨h1, h3, h4⟩ | ⟨h1, h3, h4⟩ | ⟨h1, h3, h4⟩
            · exact .inl ⟨h1, h3, hP _⟩
            · exact .inr (.inl ⟨h1, h3, hP _⟩)
            · rcases h1 with rfl | rfl <;> exact absurd h2 (by decide)
          · have := insL_len (freshB (inS s)) s
            simp only [Tm.size]
            omega
      · obtain ⟨q1, q2, q3, q4⟩ := ih t s hw2
        exact ⟨by simp only [Tm.size, q1], ⟨hw1, q2⟩, un_len _ _ _ _ _ _ _ _ rfl q3, by simp only [Tm.size]; omega⟩
    | bin k a b t u =>
      obtain ⟨hw0, hwa, hwb, hw1, hw2⟩ := hw
      simp only [canS]
      obtain ⟨q1, q2, q3, q4⟩ := ih t s hw1
      obtain ⟨r1, r2, r3, r4⟩ := ih u (canS n t s).2 hw2
      exact ⟨by simp only [Tm.size, q1, r1], ⟨hw0, hwa, hwb, q2, r2⟩, bin_len _ _ _ _ _ _ _ q3 r3, by simp only [Tm.size]; omega⟩

end Go.Proofs.Ytfcadppidgkoaaa
