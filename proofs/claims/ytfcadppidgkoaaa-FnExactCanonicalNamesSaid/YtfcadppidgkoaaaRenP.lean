/- Several texts in one.
   Renaming a free name: as the program does it, and as the reference does it, which goes on with names that no process has where there are no letters left. No program in sight.
   Renaming as the reference does it: which names come up, that there are always enough. No program in sight. -/
import Derived.Test.YtfcadppidgkoaaaFreeW
namespace Go.Proofs.Ytfcadppidgkoaaa
open Go.RowKit Go.Proofs.YtfcadppidgkoaaaW.PrintWords Go.Proofs.YtfcadppidgkoaaaW.PrintMore
set_option linter.unusedVariables false

def swp (c old name : UInt8) : UInt8 := if c = old then name else c
def tkS (t : Tm) (old name : UInt8) : UInt8 → Bool := orS t.fr (orS (eqS old) (eqS name))
def renI : Nat → Tm → UInt8 → UInt8 → Option Tm
  | 0, t, _, _ => some t
  | n + 1, t, old, name =>
    if old = name ∨ t.fr old = false then some t
    else match t with
      | .leaf k a b => some (.leaf k a b)
      | .un k a b t =>
        if k = 33 ∨ k = 61 then (renI n t old name).map (.un k (swp a old name) (swp b old name) ·)
        else if k = 63 ∨ k = 35 then
          if b = old then some (.un k (if k = 63 then swp a old name else a) b t)
          else if b = name ∧ t.fr old = true then
            (freshOf (tkS t old name)).bind fun c => (renI n t name c).bind fun t1 => (renI n t1 old name).map (.un k (if k = 63 then swp a old name else a) c ·)
          else (renI n t old name).map (.un k (if k = 63 then swp a old name else a) b ·)
        else (renI n t old name).map (.un k a b ·)
      | .bin k a b t u => (renI n t old name).bind fun t1 => (renI n u old name).map (.bin k a b t1 ·)
def renS : Nat → Tm → UInt8 → UInt8 → Tm
  | 0, t, _, _ => t
  | n + 1, t, old, name =>
    if old = name ∨ t.fr old = false then t
    else match t with
      | .leaf k a b => .leaf k a b
      | .un k a b t =>
        if k = 33 ∨ k = 61 then .un k (swp a old name) (swp b old name) (renS n t old name)
        else if k = 63 ∨ k = 35 then
          if b = old then .un k (if k = 63 then swp a old name else a) b t
          else if b = name ∧ t.fr old = true then
            .un k (if k = 63 then swp a old name else a) (freshB (tkS t old name)) (renS n (renS n t name (freshB (tkS t old name))) old name)
          else .un k (if k = 63 then swp a old name else a) b (renS n t old name)
        else .un k a b (renS n t old name)
      | .bin k a b t u => .bin k a b (renS n t old name) (renS n u old name)
def high : Tm → Bool
  | .leaf _ _ _ => false
  | .un k _ b t => (decide (k = 63 ∨ k = 35) && decide (128 ≤ vl b)) || high t
  | .bin _ _ _ t u => high t || high u

theorem let_low {c : UInt8} (h : isLet c = true) : ¬ 128 ≤ vl c := by simp [isLet] at h; omega
theorem high_ren (n : Nat) : ∀ (t : Tm) (old name : UInt8), isLet name = true → high t = true → high (renS n t old name) = true := by
  induction n with
  | zero => intro t old name _ h; exact h
  | succ n ih =>
    intro t old name hn h
    simp only [renS]
    split
    · exact h
    cases t with
    | leaf => exact h
    | un k a b t =>
      simp only
      by_cases h1 : k = 33 ∨ k = 61
      · rw [if_pos h1]
        have hk : ¬ (k = 63 ∨ k = 35) := by rcases h1 with rfl | rfl <;> decide
        simp only [high, hk, decide_false, Bool.false_and, Bool.false_or] at h ⊢
        exact ih _ _ _ hn h
      rw [if_neg h1]
      by_cases h2 : k = 63 ∨ k = 35
      · rw [if_pos h2]
        split
        · simpa [high] using h
        rename_i hbo
        split
        · rename_i hbn
          have hb : ¬ 128 ≤ vl b := by rw [hbn.1]; exact let_low hn
          simp only [high, hb, decide_false, Bool.and_false, Bool.false_or] at h
          simp only [high, Bool.or_eq_true, Bool.and_eq_true, decide_eq_true_eq]
          by_cases hy : 128 ≤ vl (freshB (tkS t old name))
          · exact .inl ⟨h2, hy⟩
          · right
            refine ih _ _ _ hn (ih _ _ _ ?_ h)
            unfold freshB at hy ⊢
            cases hf : freshOf (tkS t old name) with
            | some c => exact (freshOf_let hf).1
            | none =>
              exfalso
              rw [hf] at hy
              exact hy (by
                show 128 ≤ vl (((beyFrom 0).find? fun c => !tkS t old name c).getD 191)
                cases hg : (beyFrom 0).find? fun c => !tkS t old name c with
                | none => decide
                | some c =>
                  have hm := List.mem_of_find?_eq_some hg
                  unfold beyFrom at hm
                  obtain ⟨j, hj, rfl⟩ := List.mem_map.mp hm
                  have hj' : j < 63 := by simpa using hj
                  rw [Nat.zero_add]
                  have := bey_vl (i := j) (by omega)
                  simp only [Option.getD_some]
                  omega)
        · simp only [high, Bool.or_eq_true, Bool.and_eq_true] at h ⊢
          rcases h with h | h
          · exact .inl h
          · exact .inr (ih _ _ _ hn h)
      · rw [if_neg h2]
        simp only [high, h2, decide_false, Bool.false_and, Bool.false_or] at h ⊢
        exact ih _ _ _ hn h
    | bin k a b t u =>
      simp only [high, Bool.or_eq_true] at h ⊢
      exact h.imp (ih _ _ _ hn) (ih _ _ _ hn)
theorem freshB_of {p : UInt8 → Bool} {c : UInt8} (h : freshOf p = some c) : freshB p = c := by unfold freshB; rw [h]
theorem freshB_beyond {p : UInt8 → Bool} (h : freshOf p = none) : 128 ≤ vl (freshB p) := by
  unfold freshB
  rw [h]
  show 128 ≤ vl (((beyFrom 0).find? fun c => !p c).getD 191)
  cases hg : (beyFrom 0).find? fun c => !p c with
  | none => decide
  | some c =>
    have hm := List.mem_of_find?_eq_some hg
    unfold beyFrom at hm
    obtain ⟨j, hj, rfl⟩ := List.mem_map.mp hm
    have hj' : j < 63 := by simpa using hj
    rw [Nat.zero_add]
    have := bey_vl (i := j) (by omega)
    simp only [Option.getD_some]
    omega
theorem ren_same (n : Nat) : ∀ (t : Tm) (old name : UInt8), isLet old = true → isLet name = true →
    match renI n t old name with
    | some u => renS n t old name = u
    | none => high (renS n t old name) = true := by
  induction n with
  | zero => intro t old name _ _; rfl
  | succ n ih =>
    intro t old name ho hn
    simp only [renI, renS]
    by_cases h0 : old = name ∨ t.fr old = false
    · rw [if_pos h0, if_pos h0]
    rw [if_neg h0, if_neg h0]
    cases t with
    | leaf => rfl
    | un k a b t =>
      simp only
      by_cases h1 : k = 33 ∨ k = 61
      · rw [if_pos h1, if_pos h1]
        have := ih t old name ho hn
        cases hr : renI n t old name with
        | some u => rw [hr] at this; simp only [Option.map_some]; rw [this]
        | none => rw [hr] at this; simp only [Option.map_none, high, Bool.or_eq_true]; exact .inr this
      rw [if_neg h1, if_neg h1]
      by_cases h2 : k = 63 ∨ k = 35
      · rw [if_pos h2, if_pos h2]
        by_cases h3 : b = old
        · rw [if_pos h3, if_pos h3]
        rw [if_neg h3, if_neg h3]
        by_cases h4 : b = name ∧ t.fr old = true
        · rw [if_pos h4, if_pos h4]
          cases hf : freshOf (tkS t old name) with
          | none =>
            simp only [Option.bind_none, high, Bool.or_eq_true, Bool.and_eq_true, decide_eq_true_eq]
            exact .inl ⟨h2, freshB_beyond hf⟩
          | some c =>
            have hc := (freshOf_let hf).1
            rw [freshB_of hf]
            simp only [Option.bind_some]
            have e1 := ih t name c hn hc
            cases hr : renI n t name c with
            | none =>
              rw [hr] at e1
              simp only [Option.bind_none, high, Bool.or_eq_true]
              exact .inr (high_ren n _ _ _ hn e1)
            | some t1 =>
              rw [hr] at e1
              simp only at e1
              rw [e1]
              simp only [Option.bind_some]
              have e2 := ih t1 old name ho hn
              cases hr2 : renI n t1 old name with
              | none => rw [hr2] at e2; simp only [Option.map_none, high, Bool.or_eq_true]; exact .inr e2
              | some t2 => rw [hr2] at e2; simp only at e2; simp only [Option.map_some]; rw [e2]
        · rw [if_neg h4, if_neg h4]
          have := ih t old name ho hn
          cases hr : renI n t old name with
          | some u => rw [hr] at this; simp only [Option.map_some]; rw [this]
          | none => rw [hr] at this; simp only [Option.map_none, high, Bool.or_eq_true]; exact .inr this
      · rw [if_neg h2, if_neg h2]
        have := ih t old name ho hn
        cases hr : renI n t old name with
        | some u => rw [hr] at this; simp only [Option.map_some]; rw [this]
        | none => rw [hr] at this; simp only [Option.map_none, high, Bool.or_eq_true]; exact .inr this
    | bin k a b t u =>
      simp only
      have e1 := ih t old name ho hn
      have e2 := ih u old name ho hn
      cases hr : renI n t old name with
      | none => rw [hr] at e1; simp only [Option.bind_none, high, Bool.or_eq_true]; exact .inl e1
      | some t1 =>
        rw [hr] at e1
        simp only at e1
        simp only [Option.bind_some]
        cases hr2 : renI n u old name with
        | none => rw [hr2] at e2; simp only [Option.map_none, high, Bool.or_eq_true]; exact .inr e2
        | some u1 => rw [hr2] at e2; simp only at e2; simp only [Option.map_some]; rw [e1, e2]

end Go.Proofs.Ytfcadppidgkoaaa
namespace Go.Proofs.Ytfcadppidgkoaaa
open Go.RowKit Go.Proofs.YtfcadppidgkoaaaW.PrintWords Go.Proofs.YtfcadppidgkoaaaW.PrintMore
set_option linter.unusedVariables false
set_option linter.unusedSimpArgs false

theorem nodup_le {α : Type} [BEq α] [LawfulBEq α] : ∀ (A L : List α), A.Nodup → (∀ c, c ∈ A → c ∈ L) → A.length ≤ L.length
  | [], _, _, _ => Nat.zero_le _
  | a :: A, L, hn, hs => by
    obtain ⟨h1, h2⟩ := List.nodup_cons.mp hn
    have ha := hs a (by simp)
    have := nodup_le A (L.erase a) h2 fun c hc => by
      have hne : c ≠ a := fun e => h1 (e ▸ hc)
      exact (List.mem_erase_of_ne hne).mpr (hs c (by simp [hc]))
    rw [List.length_erase_of_mem ha] at this
    have hp := List.length_pos_of_mem ha
    simp only [List.length_cons]
    omega
theorem bey_nodup : (beyFrom 0).Nodup := by decide +kernel
def HiB (L : List UInt8) (p : UInt8 → Bool) : Prop := ∀ c, p c = true → 128 ≤ vl c → c ∈ L
theorem fresh_avoids {p : UInt8 → Bool} {L : List UInt8} (h : HiB L p) (hl : L.length ≤ 62) : p (freshB p) = false := by
  cases hf : freshOf p with
  | some c => rw [freshB_of hf]; exact (freshOf_let hf).2
  | none =>
    unfold freshB
    rw [hf]
    show p (((beyFrom 0).find? fun c => !p c).getD 191) = false
    cases hg : (beyFrom 0).find? fun c => !p c with
    | some c =>
      have := List.find?_some hg
      simpa using this
    | none =>
      exfalso
      have h1 := List.find?_eq_none.mp hg
      have h2 : ∀ c, c ∈ beyFrom 0 → c ∈ L := fun c hc => by
        refine h c (by simpa using h1 c hc) ?_
        unfold beyFrom at hc
        obtain ⟨j, hj, rfl⟩ := List.mem_map.mp hc
        simp only [List.mem_range] at hj
        rw [Nat.zero_add, bey_vl (by omega)]
        omega
      have h3 := nodup_le _ _ bey_nodup h2
      have h4 : (beyFrom 0).length = 63 := by simp [beyFrom]
      omega
theorem tkS_old (t : Tm) (old name : UInt8) : tkS t old name old = true := by simp [tkS, orS, eqS]
theorem tkS_name (t : Tm) (old name : UInt8) : tkS t old name name = true := by simp [tkS, orS, eqS]
theorem tkS_fr {t : Tm} {old name c : UInt8} (h : t.fr c = true) : tkS t old name c = true := by simp [tkS, orS, h]
theorem tkS_or {t : Tm} {old name c : UInt8} (h : tkS t old name c = true) : t.fr c = true ∨ c = old ∨ c = name := by
  simp only [tkS, orS, eqS, Bool.or_eq_true, beq_iff_eq] at h
  exact h
theorem fr_un {k a b : UInt8} {t : Tm} {c : UInt8} (h : t.fr c = true) : (Tm.un k a b t).fr c = true ∨ c = b := by
  simp only [Tm.fr]
  by_cases hb : c = b
  · exact .inr hb
  · left
    split
    · simp [orS, h]
    split
    · simp [orS, minusS, eqS, h, hb]
    split
    · simp [minusS, eqS, h, hb]
    · exact h
theorem fr_ren (n : Nat) : ∀ (t : Tm) (old name c : UInt8), (renS n t old name).fr c = true → t.fr c = true ∨ c = name := by
  have hsw : ∀ a old name c : UInt8, eqS (swp a old name) c = true → eqS a c = true ∨ c = name := fun a old name c h => by
    unfold swp at h
    split at h
    · right; simpa [eqS] using h
    · exact .inl h
  induction n with
  | zero => intro t old name c h; exact .inl h
  | succ n ih =>
    intro t old name c h
    simp only [renS] at h
    split at h
    · exact .inl h
    cases t with
    | leaf => exact .inl h
    | un k a b t =>
      simp only at h
      by_cases h1 : k = 33 ∨ k = 61
      · rw [if_pos h1] at h
        simp only [Tm.fr, if_pos h1, orS, Bool.or_eq_true] at h ⊢
        rcases h with h | h | h
        · exact (ih _ _ _ _ h).imp .inl id
        · exact (hsw _ _ _ _ h).imp (fun h => .inr (.inl h)) id
        · exact (hsw _ _ _ _ h).imp (fun h => .inr (.inr h)) id
      rw [if_neg h1] at h
      by_cases h2 : k = 63 ∨ k = 35
      · rw [if_pos h2] at h
        have key : ∀ (b' : UInt8) (u : Tm), (∀ d, u.fr d = true → d ≠ b' → (t.fr d = true ∧ d ≠ b) ∨ d = name) → (Tm.un k (if k = 63 then swp a old name else a) b' u).fr c = true → (Tm.un k a b t).fr c = true ∨ c = name := fun b' u hu h => by
          simp only [Tm.fr, if_neg h1] at h ⊢
          by_cases h3 : k = 63
          · simp only [if_pos h3, orS, minusS, Bool.or_eq_true, Bool.and_eq_true, Bool.not_eq_true'] at h ⊢
            rcases h with ⟨h, hb⟩ | h
            · rcases hu c h (by simpa [eqS] using hb) with ⟨h, hb⟩ | h
              · exact .inl (.inl ⟨h, by simpa [eqS] using hb⟩)
              · exact .inr h
            · exact (hsw _ _ _ _ h).imp .inr id
          · have h4 : k = 35 := by rcases h2 with h | h; exact absurd h h3; exact h
            simp only [if_neg h3, if_pos h4, minusS, Bool.and_eq_true, Bool.not_eq_true'] at h ⊢
            obtain ⟨h, hb⟩ := h
            rcases hu c h (by simpa [eqS] using hb) with ⟨h, hb⟩ | h
            · exact .inl ⟨h, by simpa [eqS] using hb⟩
            · exact .inr h
        by_cases h3 : b = old
        · rw [if_pos h3] at h
          exact key b t (fun d h hd => .inl ⟨h, hd⟩) h
        rw [if_neg h3] at h
        by_cases h4 : b = name ∧ t.fr old = true
        · rw [if_pos h4] at h
          refine key _ _ (fun d hd hne => ?_) h
          rcases ih _ _ _ _ hd with hd | hd
          · rcases ih _ _ _ _ hd with hd | hd
            · by_cases hb : d = b
              · exact .inr (hb.trans h4.1)
              · exact .inl ⟨hd, hb⟩
            · exact absurd hd hne
          · exact .inr hd
        · rw [if_neg h4] at h
          refine key _ _ (fun d hd hne => ?_) h
          rcases ih _ _ _ _ hd with hd | hd
          · exact .inl ⟨hd, hne⟩
          · exact .inr hd
      · rw [if_neg h2] at h
        simp only [Tm.fr, if_neg h1, if_neg (fun e => h2 (.inl e)), if_neg (fun e => h2 (.inr e))] at h ⊢
        exact ih _ _ _ _ h
    | bin k a b t u =>
      simp only [Tm.fr, orS, Bool.or_eq_true] at h ⊢
      rcases h with h | h
      · exact (ih _ _ _ _ h).imp .inl id
      · exact (ih _ _ _ _ h).imp .inr id
theorem un_len (k a b : UInt8) (t : Tm) (k' a' b' : UInt8) (u : Tm) (hk : k' = k) (h : u.text.length = t.text.length) : (Tm.un k' a' b' u).text.length = (Tm.un k a b t).text.length := by
  subst hk
  simp only [Tm.text, List.length_append, h]
  congr 1
  repeat' split
  all_goals rfl
theorem bin_len (k a b : UInt8) (t u t' u' : Tm) (h : t'.text.length = t.text.length) (h2 : u'.text.length = u.text.length) : (Tm.bin k a b t' u').text.length = (Tm.bin k a b t u).text.length := by
  simp only [Tm.text, List.length_append, List.length_cons, h, h2]
theorem renS_wf {P : UInt8 → Bool} (hP : ∀ p, P (freshB p) = true) (n : Nat) : ∀ (t : Tm) (old name : UInt8), P name = true → Wf P t → (renS n t old name).size = t.size ∧ Wf P (renS n t old name) ∧ (renS n t old name).text.length = t.text.length := by
  have hsw : ∀ (c old name : UInt8), P name = true → P c = true → P (swp c old name) = true := fun c old name hn hc => by unfold swp; split <;> assumption
  induction n with
  | zero => intro t old name hn hw; exact ⟨rfl, hw, rfl⟩
  | succ n ih =>
    intro t old name hn hw
    simp only [renS]
    split
    · exact ⟨rfl, hw, rfl⟩
    cases t with
    | leaf k a b => exact ⟨rfl, hw, rfl⟩
    | un k a b t =>
      obtain ⟨hw1, hw2⟩ := hw
      simp only
      split
      · rename_i hk
        obtain ⟨r1, r2, r3⟩ := ih t old name hn hw2
        refine ⟨by simp only [Tm.size, r1], ⟨?_, r2⟩, un_len _ _ _ _ _ _ _ _ rfl r3⟩
        rcases hw1 with ⟨h1, h2, h3⟩ | ⟨h1, h2, h3⟩ | ⟨h1, h2, h3⟩
        · exact .inl ⟨h1, hsw _ _ _ hn h2, hsw _ _ _ hn h3⟩
        · subst h1; exact absurd hk (by decide)
        · rcases h1 with rfl | rfl <;> exact absurd hk (by decide)
      split
      · rename_i hk1 hk
        have hk' : (k = 63 ∧ P a = true ∧ P b = true) ∨ (k = 35 ∧ a = 0 ∧ P b = true) := by
          rcases hw1 with ⟨h1, h2, h3⟩ | ⟨h1, h2, h3⟩ | ⟨h1, h2, h3⟩
          · rcases hk with hk | hk
            · exact .inl ⟨hk, h2, h3⟩
            · subst hk; exact absurd h1 (by decide)
          · exact .inr ⟨h1, h2, h3⟩
          · rcases h1 with rfl | rfl <;> exact absurd hk (by decide)
        have big : ∀ (c : UInt8) (v : Tm), P c = true → Wf P v → Wf P (.un k (if k = 63 then swp a old name else a) c v) := fun c v hc hv => by
          refine ⟨?_, hv⟩
          rcases hk' with ⟨rfl, h2, h3⟩ | ⟨rfl, h2, h3⟩
          · exact .inl ⟨.inr (.inl rfl), by rw [if_pos rfl]; exact hsw _ _ _ hn h2, hc⟩
          · exact .inr (.inl ⟨rfl, by rw [if_neg (by decide)]; exact h2, hc⟩)
        have hbl : P b = true := by rcases hk' with h | h <;> exact h.2.2
        split
        · exact ⟨rfl, big _ _ hbl hw2, un_len _ _ _ _ _ _ _ _ rfl rfl⟩
        split
        · have hcl := hP (tkS t old name)
          obtain ⟨r1, r2, r3⟩ := ih t name _ hcl hw2
          obtain ⟨r4, r5, r6⟩ := ih _ old name hn r2
          exact ⟨by simp only [Tm.size, r4, r1], big _ _ hcl r5, un_len _ _ _ _ _ _ _ _ rfl (r6.trans r3)⟩
        · obtain ⟨r1, r2, r3⟩ := ih t old name hn hw2
          exact ⟨by simp only [Tm.size, r1], big _ _ hbl r2, un_len _ _ _ _ _ _ _ _ rfl r3⟩
      · obtain ⟨r1, r2, r3⟩ := ih t old name hn hw2
        exact ⟨by simp only [Tm.size, r1], ⟨hw1, r2⟩, un_len _ _ _ _ _ _ _ _ rfl r3⟩
    | bin k a b t u =>
      obtain ⟨hw0, hwa, hwb, hw1, hw2⟩ := hw
      obtain ⟨r1, r2, r3⟩ := ih t old name hn hw1
      obtain ⟨r4, r5, r6⟩ := ih u old name hn hw2
      exact ⟨by simp only [Tm.size, r1, r4], ⟨hw0, hwa, hwb, r2, r5⟩, bin_len _ _ _ _ _ _ _ r3 r6⟩
theorem high_text : ∀ {t : Tm}, high t = true → ∃ c, c ∈ t.text ∧ 128 ≤ vl c
  | .leaf _ _ _, h => by simp [high] at h
  | .un k a b t, h => by
    simp only [high, Bool.or_eq_true, Bool.and_eq_true, decide_eq_true_eq] at h
    rcases h with ⟨h, hb⟩ | h
    · refine ⟨b, ?_, hb⟩
      rcases h with rfl | rfl <;> simp [Tm.text]
    · obtain ⟨c, hc, hv⟩ := high_text h
      refine ⟨c, ?_, hv⟩
      simp only [Tm.text, List.mem_append]
      exact .inr hc
  | .bin k a b t u, h => by
    simp only [high, Bool.or_eq_true] at h
    rcases h with h | h
    · obtain ⟨c, hc, hv⟩ := high_text h
      exact ⟨c, by simp [Tm.text, hc], hv⟩
    · obtain ⟨c, hc, hv⟩ := high_text h
      exact ⟨c, by simp [Tm.text, hc], hv⟩

def Enough (t : Tm) (old name : UInt8) : Prop := ∃ L, HiB L (tkS t old name) ∧ L.length + t.size ≤ 63
theorem Enough.un {k a b : UInt8} {t : Tm} {old name : UInt8} (h : Enough (.un k a b t) old name) : Enough t old name := by
  obtain ⟨L, hL, hl⟩ := h
  refine ⟨b :: L, fun c hc hv => ?_, by simp only [Tm.size, List.length_cons] at hl ⊢; omega⟩
  rcases tkS_or hc with hc | rfl | rfl
  · rcases fr_un (k := k) (a := a) (b := b) hc with hc | rfl
    · exact List.mem_cons_of_mem _ (hL c (tkS_fr hc) hv)
    · simp
  · exact List.mem_cons_of_mem _ (hL _ (tkS_old _ _ _) hv)
  · exact List.mem_cons_of_mem _ (hL _ (tkS_name _ _ _) hv)
theorem Enough.binl {k a b : UInt8} {t u : Tm} {old name : UInt8} (h : Enough (.bin k a b t u) old name) : Enough t old name := by
  obtain ⟨L, hL, hl⟩ := h
  refine ⟨L, fun c hc hv => ?_, by simp only [Tm.size] at hl ⊢; omega⟩
  rcases tkS_or hc with hc | rfl | rfl
  · exact hL c (tkS_fr (by simp [Tm.fr, orS, hc])) hv
  · exact hL _ (tkS_old _ _ _) hv
  · exact hL _ (tkS_name _ _ _) hv
theorem Enough.binr {k a b : UInt8} {t u : Tm} {old name : UInt8} (h : Enough (.bin k a b t u) old name) : Enough u old name := by
  obtain ⟨L, hL, hl⟩ := h
  refine ⟨L, fun c hc hv => ?_, by simp only [Tm.size] at hl ⊢; omega⟩
  rcases tkS_or hc with hc | rfl | rfl
  · exact hL c (tkS_fr (by simp [Tm.fr, orS, hc])) hv
  · exact hL _ (tkS_old _ _ _) hv
  · exact hL _ (tkS_name _ _ _) hv
theorem Enough.cap {k a b : UInt8} {t : Tm} {old name : UInt8} (h : Enough (.un k a b t) old name) (hb : b = name) (n : Nat) :
    tkS t old name (freshB (tkS t old name)) = false ∧ Enough t name (freshB (tkS t old name)) ∧ ((renS n t name (freshB (tkS t old name))).size = t.size → Enough (renS n t name (freshB (tkS t old name))) old name) := by
  obtain ⟨L, hL, hl⟩ := h
  simp only [Tm.size] at hl
  have hz := t.size_pos
  have hL0 : HiB L (tkS t old name) := fun c hc hv => by
    rcases tkS_or hc with hc | rfl | rfl
    · rcases fr_un (k := k) (a := a) (b := b) hc with hc | rfl
      · exact hL c (tkS_fr hc) hv
      · exact hL _ (hb ▸ tkS_name _ _ _) hv
    · exact hL _ (tkS_old _ _ _) hv
    · exact hL _ (tkS_name _ _ _) hv
  refine ⟨fresh_avoids hL0 (by omega), ⟨freshB (tkS t old name) :: L, fun c hc hv => ?_, by simp only [List.length_cons]; omega⟩, fun hs => ⟨freshB (tkS t old name) :: L, fun c hc hv => ?_, by simp only [List.length_cons, hs]; omega⟩⟩
  · rcases tkS_or hc with hc | rfl | hc
    · exact List.mem_cons_of_mem _ (hL0 c (tkS_fr hc) hv)
    · exact List.mem_cons_of_mem _ (hL0 _ (tkS_name _ _ _) hv)
    · rw [hc]; simp
  · rcases tkS_or hc with hc | rfl | rfl
    · rcases fr_ren n _ _ _ _ hc with hc | hc
      · exact List.mem_cons_of_mem _ (hL0 c (tkS_fr hc) hv)
      · rw [hc]; simp
    · exact List.mem_cons_of_mem _ (hL0 _ (tkS_old _ _ _) hv)
    · exact List.mem_cons_of_mem _ (hL0 _ (tkS_name _ _ _) hv)

end Go.Proofs.Ytfcadppidgkoaaa
