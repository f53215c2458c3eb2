-- Several texts of this claim in one.
import Derived.Test.YtjgfgjhaghbehaaGreatPlace2soPlace
import Derived.Test.YtjgfgjhaghbehaaGreatSoUsessoPlace
import Derived.Test.YtjgfgjhaghbehaaGreatUsesOf
import Derived.Test.YtjgfgjhaghbehaaGreatZCarriedBy
import Derived.Test.YtjgfgjhaghbehaaGreatZSortText
/- The law FnExactCountUses, walked: the program's answer is the reference's. -/
namespace Go.Proofs.YtjgfgjhaghbehaaGreat.PFnExactCountUses
open Go.RowKit Go.Proofs.YtjgfgjhaghbehaaGreatW.PrintWords Go.Proofs.YtjgfgjhaghbehaaGreatW.PrintLast Go.Proofs.YtjgfgjhaghbehaaGreatW.PrintMore Go.Proofs.YtjgfgjhaghbehaaGreat.Pterm Go.Proofs.YtjgfgjhaghbehaaGreat.PsoPlace
set_option linter.unusedVariables false
set_option linter.unusedSimpArgs false

def out (p a : List UInt8) : Ending := .returned (.tuple #[.int .i64 (usV p a).s, .int .i64 (usV p a).r, .int .i64 (usV p a).h, .bool (withB p [a])])
theorem with_one {p a : List UInt8} (h : withB p [a] = true) : readOk p = true ∧ ∃ c, a = [c] ∧ isLet c = true := by
  simp only [withB, freeB, List.all_cons, List.all_nil, Bool.and_true, Bool.and_eq_true] at h
  exact ⟨h.1, oneB_iff.mp h.2.1⟩

set_option maxHeartbeats 1000000 in
theorem CountUses_calls (p a : List UInt8) (w : World) (hp : p.length ≤ 140737488351232) (ha : a.length ≤ 140737488351232) :
    Calls Tryz.prog 13 #[.string (B p), .string (B a)] w fun e w' => e = out p a ∧ Below w.heap.size w w' := by
  have hu := usesOf_calls p a w hp ha
  unfold Us.agg at hu
  have HV : Hid (out p a = .returned (.tuple #[.int .i64 (usV p a).s, .int .i64 (usV p a).r, .int .i64 (usV p a).h, .bool (withB p [a])])) := rfl
  generalize usV p a = u at hu HV
  generalize withB p [a] = ok at hu HV
  go_enter Tryz.func13, Tryz.ntmps13
  go_wp2_with fail
  refine hu.mono ?_
  rintro e w1 ⟨rfl, hb⟩
  clear hu
  go_wp2_with fail
  obtain ⟨w2, hW2⟩ : ∃ w2, w2 = w1.alloc (.cells #[.int .i64 u.s, .int .i64 u.r, .int .i64 u.h, .int .i64 u.m, .int .i64 u.g] 60) := ⟨_, rfl⟩
  have hb2 : Below w.heap.size w w2 := by rw [hW2]; exact hb.alloc hb.size _
  have hx : w2.heap[w1.heap.size]? = some (.cells #[.int .i64 u.s, .int .i64 u.r, .int .i64 u.h, .int .i64 u.m, .int .i64 u.g] 60 (0, 0)) := by rw [hW2]; exact heap_alloc_new w1 _
  have c0 : w2.cell? ⟨w1.heap.size, 0, none⟩ = some (.int .i64 u.s) := blk_cell hx 0
  have c1 : w2.cell? ⟨w1.heap.size, 1, none⟩ = some (.int .i64 u.r) := blk_cell hx 1
  have c2 : w2.cell? ⟨w1.heap.size, 2, none⟩ = some (.int .i64 u.h) := blk_cell hx 2
  rw [← hW2]
  clear hW2 hb hx
  go_quiet (fail)
  go_wp2_with fail
  refine bodyPost_ret (results_list (rs := [.tmp 4, .tmp 5, .tmp 6, .tmp 7]) rfl (by simp) (.tmp (.tmp (.tmp (.tmp .nil))))) rfl ?_
  exact ⟨by rw [HV.out]; rfl, pw_below_drewN hb2 _⟩

theorem us_get {p : List UInt8} {c : UInt8} (h : withB p [[c]] = true) : (usV p [c]).s = uf c (parsed p).1 0 ∧ (usV p [c]).r = uf c (parsed p).1 1 ∧ (usV p [c]).h = uf c (parsed p).1 2 ∧ (usV p [c]).m = uf c (parsed p).1 3 := by
  have e : usV p [c] = usF c false (parsed p).1 Us.zero := by unfold usV; rw [if_pos h]; rfl
  have h4 := us_four c (parsed p).1 false Us.zero
  have hl := us4_len c (parsed p).1
  rw [← e] at h4
  generalize usV p [c] = u at h4 ⊢
  unfold uf
  match h : us4 c (parsed p).1, hl with
  | [x0, x1, x2, x3], _ =>
    rw [h] at h4
    simp [Us.four, Us.zero, add4] at h4
    simpa using h4

set_option maxHeartbeats 2000000 in
theorem spec_calls (p a : List UInt8) (w : World) (hp : p.length ≤ 140737488351232) (ha : a.length ≤ 140737488351232) :
    Calls Tryz.prog 14 #[.string (B p), .string (B a)] w fun e w' => e = out p a ∧ Below w.heap.size w w' := by
  have hpl := place_f p a
  rcases hok : withB p [a] with _ | _
  · have HV : Hid (out p a = .returned (.tuple #[.int .i64 0, .int .i64 0, .int .i64 0, .bool false])) := by simp [Hid, out, usV, hok, Us.zero]
    rw [hok] at hpl
    clear hok
    go_enter Tryz.func14, Tryz.ntmps14
    go_wp2_with fail
    refine (spec_soPlace.calls 4000 (B p) (B a) _ _ _ hpl).mono ?_
    rintro e w1 ⟨rfl, hb⟩
    clear hpl
    go_wp2_with fail
    refine bodyPost_ret (results_list (rs := [.tmp 4, .tmp 5, .tmp 6, .tmp 7]) rfl (by simp) (.tmp (.tmp (.tmp (.tmp .nil))))) rfl ?_
    exact ⟨by rw [HV.out]; rfl, hb⟩
  · obtain ⟨hr, c, rfl, hc⟩ := with_one hok
    have hu := us_get hok
    have HV : Hid (out p [c] = .returned (.tuple #[.int .i64 (uf c (parsed p).1 0 : Nat), .int .i64 (uf c (parsed p).1 1 : Nat), .int .i64 (uf c (parsed p).1 2 : Nat), .bool true])) := by
      simp only [Hid, out, hok, hu.1, hu.2.1, hu.2.2.1]
    obtain ⟨g1, g2, g3, g4⟩ := read_good hr
    have HS : Hid (∀ W, Calls Tryz.prog 36 #[.string (B p), .int .u8 (vl c)] W fun e w' => ∃ g cc, e = .returned (.slice (some ⟨g, 0, none⟩) 4 cc) ∧ 4 ≤ cc ∧ Q4 W w' g (uf c (parsed p).1)) := fun W => by
      have := so_any c 60 (parsed p).1 W g4 (by omega) g3 (by rw [← g2]; omega)
      rw [← g2] at this
      exact this
    have hz : (B [c]).size = 1 := B_size [c]
    have hby := byte_of [c] 0 (by simp)
    rw [hok] at hpl
    clear hok hu hr g1 g2 g3 g4 hc
    go_enter Tryz.func14, Tryz.ntmps14
    go_wp2_with fail
    refine (spec_soPlace.calls 4000 (B p) (B [c]) _ _ _ hpl).mono ?_
    rintro e w1 ⟨rfl, hb⟩
    clear hpl
    go_wp2_with fail
    refine (HS.out _).mono ?_
    rintro e w2 ⟨g, cc, rfl, hcc, hq⟩
    have hb2 := below_then hb hb.size hq.below
    have c0 := (hq.four.cell (i := 0) (by omega)).1
    have c1 := (hq.four.cell (i := 1) (by omega)).1
    have c2 := (hq.four.cell (i := 2) (by omega)).1
    clear hb hq
    go_wp2_with fail
    go_quiet (fail)
    go_wp2_with fail
    refine bodyPost_ret (results_list (rs := [.tmp 4, .tmp 5, .tmp 6, .tmp 7]) rfl (by simp) (.tmp (.tmp (.tmp (.tmp .nil))))) rfl ?_
    exact ⟨by rw [HV.out]; rfl, pw_below_drewN hb2 _⟩


end Go.Proofs.YtjgfgjhaghbehaaGreat.PFnExactCountUses
/- What a name carries has one level less; a name that is sent over or received over carries something. Plain laws on sorts. -/
namespace Go.Proofs.YtjgfgjhaghbehaaGreat
open Go.RowKit Go.Proofs.YtjgfgjhaghbehaaGreatW.PrintWords Go.Proofs.YtjgfgjhaghbehaaGreatW.PrintMore Go.Proofs.YtjgfgjhaghbehaaGreat.Rf Go.Proofs.YtjgfgjhaghbehaaGreat.PsoPlace
set_option linter.unusedVariables false
set_option linter.unusedSimpArgs false

namespace Srt
def Has (s : Srt) (k : Nat) : Prop := 0 ≤ s.car (s.rt k)
theorem has_link {s : Srt} {k x y : Nat} (h : s.Has k) (hx : 0 ≤ s.car x) : (s.link x y).Has k := by
  unfold Has link
  simp only
  by_cases e : s.rt k = y
  · rw [if_pos e]; exact hx
  · rw [if_neg e]; exact h
theorem has_joinF : ∀ (f : Nat) (s : Srt) (x y k : Nat), s.Has k → (joinF f s x y).Has k
  | 0, s, x, y, k, h => h
  | f + 1, s, x, y, k, h => by
    simp only [joinF]
    split
    · exact h
    rename_i hne
    split
    · rename_i hx
      unfold Has link setCar
      simp only
      by_cases e : s.rt k = s.rt y
      · rw [if_pos e, upd_self, ← e]; exact h
      · rw [if_neg e, upd_ne]
        · exact h
        · intro e2
          have h' : 0 ≤ s.car (s.rt k) := h
          rw [e2] at h'
          omega
    rename_i hx
    split
    · exact has_joinF f _ _ _ k (has_link h (by omega))
    · exact has_link h (by omega)
theorem has_join {s : Srt} {x y k : Nat} (h : s.Has k) : (s.join x y).Has k := has_joinF _ _ _ _ _ h
theorem has_carry {s : Srt} {x y k : Nat} (h : s.Has k) : (s.carry x y).Has k := by
  unfold carry
  split
  · unfold Has setCar
    simp only
    by_cases e : s.rt k = s.rt x
    · rw [e, upd_self]; omega
    · rw [upd_ne _ _ e]; exact h
  · exact has_join h
theorem has_this (s : Srt) (x y : Nat) : (s.carry x y).Has x := by
  unfold carry
  split
  · unfold Has setCar
    simp only [upd_self]
    omega
  · rename_i hx
    exact has_join (show 0 ≤ s.car (s.rt x) from by omega)
theorem has_fresh {s : Srt} (ho : s.Ok) {k : Nat} (hk : k < s.n) (h : s.Has k) : s.fresh.Has k := by
  have := ho.rlt k hk
  show 0 ≤ upd s.car s.n (-1) (upd s.rt s.n s.n k)
  rw [upd_ne s.rt s.n (show k ≠ s.n from by omega), upd_ne s.car (-1) (show s.rt k ≠ s.n from by omega)]
  exact h
theorem sc_un {k a b : UInt8} {t : Tm} {e : UInt8 → Nat} {s s1 : Srt} (h : Sc (Tm.un k a b t).fr e s) (hn : s.n ≤ s1.n) (hk : ¬ (k = 63 ∨ k = 35)) : Sc t.fr e s1 := fun c hc => by
  have : (Tm.un k a b t).fr c = true := by
    simp only [Tm.fr]
    by_cases h1 : k = 33 ∨ k = 61
    · rw [if_pos h1]; simp [orS, hc]
    · rw [if_neg h1, if_neg (fun q => hk (.inl q)), if_neg (fun q => hk (.inr q))]; exact hc
  have := h c this
  omega
theorem sc_un2 {k a b : UInt8} {t : Tm} {e : UInt8 → Nat} {s s1 : Srt} (h : Sc (Tm.un k a b t).fr e s) (hn : s.n < s1.n) (hk : k = 63 ∨ k = 35) : Sc t.fr (fun c => if c = b then s.n else e c) s1 := fun c hc => by
  show (if c = b then s.n else e c) < s1.n
  by_cases hcb : c = b
  · rw [if_pos hcb]; exact hn
  rw [if_neg hcb]
  have hm : minusS t.fr (eqS b) c = true := by simp [minusS, eqS, hc, hcb]
  have : (Tm.un k a b t).fr c = true := by
    simp only [Tm.fr]
    rcases hk with rfl | rfl
    · rw [if_neg (by decide), if_pos rfl]; simp [orS, hm]
    · rw [if_neg (by decide), if_neg (by decide), if_pos rfl]; exact hm
  have := h c this
  omega
theorem walk_has : ∀ (t : Tm) (e : UInt8 → Nat) (s : Srt), Wf isLet t → s.Ok → Sc t.fr e s → (∀ k, k < s.n → s.Has k → (walk t e s).Has k) ∧ ∀ c, e c < s.n → 0 < PsoPlace.uf c t 0 + PsoPlace.uf c t 1 → (walk t e s).Has (e c)
  | .leaf _ _ _, e, s, hw, ho, hs => ⟨fun k _ h => h, fun c _ h => by simp [PsoPlace.uf, us4] at h⟩
  | .un k a b t, e, s, hw, ho, hs => by
    have own : ∀ c, 0 < PsoPlace.uf c (.un k a b t) 0 + PsoPlace.uf c (.un k a b t) 1 → (k = 33 ∨ k = 63) ∧ a = c ∨ ¬ ((k = 63 ∨ k = 35) ∧ b = c) ∧ 0 < PsoPlace.uf c t 0 + PsoPlace.uf c t 1 := fun c h => by
      have g : ∀ i, i < 2 → (own4 c k a b).getD i 0 ≠ 0 → (k = 33 ∨ k = 63) ∧ a = c := fun i hi hne => by
        unfold own4 at hne
        by_cases h33 : k = 33
        · rw [if_pos h33] at hne
          rcases (by omega : i = 0 ∨ i = 1) with rfl | rfl
          · refine ⟨.inl h33, ?_⟩
            by_cases hac : a = c
            · exact hac
            · simp [hac] at hne
          · simp at hne
        rw [if_neg h33] at hne
        by_cases h63 : k = 63
        · rw [if_pos h63] at hne
          rcases (by omega : i = 0 ∨ i = 1) with rfl | rfl
          · simp at hne
          · refine ⟨.inr h63, ?_⟩
            by_cases hac : a = c
            · exact hac
            · simp [hac] at hne
        rw [if_neg h63] at hne
        rcases (by omega : i = 0 ∨ i = 1) with rfl | rfl <;> (split at hne <;> simp at hne)
      by_cases hst : stops c k b = true
      · left
        simp only [PsoPlace.uf, us4, if_pos hst] at h
        by_cases h0 : (own4 c k a b).getD 0 0 = 0
        · exact g 1 (by omega) (by omega)
        · exact g 0 (by omega) h0
      · have hns : ¬ ((k = 63 ∨ k = 35) ∧ b = c) := by simpa [stops] using hst
        have hl := own4_len c k a b
        have hl2 := us4_len c t
        simp only [PsoPlace.uf, us4, if_neg hst] at h
        rw [PsoPlace.add4_get hl hl2 (by omega), PsoPlace.add4_get hl hl2 (by omega)] at h
        by_cases h0 : (own4 c k a b).getD 0 0 = 0
        · by_cases h1 : (own4 c k a b).getD 1 0 = 0
          · right
            refine ⟨hns, ?_⟩
            show 0 < (us4 c t).getD 0 0 + (us4 c t).getD 1 0
            omega
          · exact .inl (g 1 (by omega) h1)
        · exact .inl (g 0 (by omega) h0)
    obtain ⟨hw1, hw2⟩ := hw
    have ha : k = 33 ∨ k = 61 ∨ k = 63 → e a < s.n := fun hk => hs a (by
      simp only [Tm.fr]
      rcases hk with rfl | rfl | rfl
      · rw [if_pos (by decide)]; simp [orS, eqS]
      · rw [if_pos (by decide)]; simp [orS, eqS]
      · rw [if_neg (by decide), if_pos rfl]; simp [orS, eqS])
    have hb : k = 33 ∨ k = 61 → e b < s.n := fun hk => hs b (by
      simp only [Tm.fr]
      rcases hk with rfl | rfl
      · rw [if_pos (by decide)]; simp [orS, eqS]
      · rw [if_pos (by decide)]; simp [orS, eqS])
    simp only [walk]
    by_cases h33 : k = 33
    · rw [if_pos h33]
      have h1 := ha (.inl h33)
      have h2 := hb (.inl h33)
      obtain ⟨i1, i2⟩ := walk_has t e (s.carry (e a) (e b)) hw2 (ho.carry h1 h2) (sc_un hs (by rw [carry_n]; omega) (by rw [h33]; decide))
      refine ⟨fun k hk h => i1 k (by rw [carry_n]; exact hk) (has_carry h), fun c hc h => ?_⟩
      rcases own c h with ⟨_, rfl⟩ | ⟨_, h⟩
      · exact i1 _ (by rw [carry_n]; exact hc) (has_this _ _ _)
      · exact i2 c (by rw [carry_n]; exact hc) h
    rw [if_neg h33]
    by_cases h63 : k = 63
    · rw [if_pos h63]
      have h1 := ha (.inr (.inr h63))
      have hn : s.fresh.n = s.n + 1 := rfl
      have hcn : (s.fresh.carry (e a) s.n).n = s.n + 1 := by rw [carry_n]; rfl
      obtain ⟨i1, i2⟩ := walk_has t (fun c => if c = b then s.n else e c) (s.fresh.carry (e a) s.n) hw2 (ho.fresh.carry (by omega) (by omega)) (sc_un2 hs (by rw [hcn]; omega) (.inl h63))
      refine ⟨fun k hk h => i1 k (by rw [hcn]; omega) (has_carry (has_fresh ho hk h)), fun c hc h => ?_⟩
      rcases own c h with ⟨_, rfl⟩ | ⟨hns, h⟩
      · exact i1 _ (by rw [hcn]; omega) (has_this _ _ _)
      · have hcb : ¬ c = b := fun q => hns ⟨.inl h63, q.symm⟩
        have := i2 c (by simp only [if_neg hcb]; rw [hcn]; omega) h
        simpa only [if_neg hcb] using this
    rw [if_neg h63]
    by_cases h35 : k = 35
    · rw [if_pos h35]
      have hn : s.fresh.n = s.n + 1 := rfl
      obtain ⟨i1, i2⟩ := walk_has t (fun c => if c = b then s.n else e c) s.fresh hw2 ho.fresh (sc_un2 hs (by rw [hn]; omega) (.inr h35))
      refine ⟨fun k hk h => i1 k (by rw [hn]; omega) (has_fresh ho hk h), fun c hc h => ?_⟩
      rcases own c h with ⟨hk, _⟩ | ⟨hns, h⟩
      · rcases hk with hk | hk <;> rw [h35] at hk <;> exact absurd hk (by decide)
      · have hcb : ¬ c = b := fun q => hns ⟨.inr h35, q.symm⟩
        have := i2 c (by simp only [if_neg hcb]; rw [hn]; omega) h
        simpa only [if_neg hcb] using this
    rw [if_neg h35]
    have hnk : ¬ (k = 63 ∨ k = 35) := fun q => q.elim h63 h35
    have hno : ∀ c, (k = 33 ∨ k = 63) ∧ a = c → False := fun c q => q.1.elim h33 h63
    by_cases h61 : k = 61
    · rw [if_pos h61]
      obtain ⟨i1, i2⟩ := walk_has t e (s.join (e a) (e b)) hw2 (ho.join (ha (.inr (.inl h61))) (hb (.inr h61))) (sc_un hs (by rw [join_n]; omega) hnk)
      refine ⟨fun k hk h => i1 k (by rw [join_n]; exact hk) (has_join h), fun c hc h => ?_⟩
      rcases own c h with q | ⟨_, h⟩
      · exact (hno c q).elim
      · exact i2 c (by rw [join_n]; exact hc) h
    · rw [if_neg h61]
      obtain ⟨i1, i2⟩ := walk_has t e s hw2 ho (sc_un hs (Nat.le_refl _) hnk)
      refine ⟨i1, fun c hc h => ?_⟩
      rcases own c h with q | ⟨_, h⟩
      · exact (hno c q).elim
      · exact i2 c hc h
  | .bin k a b t u, e, s, hw, ho, hs => by
    obtain ⟨_, _, _, hw1, hw2⟩ := hw
    have hst : Sc t.fr e s := fun c hc => hs c (by simp [Tm.fr, orS, hc])
    have hsu : Sc u.fr e s := fun c hc => hs c (by simp [Tm.fr, orS, hc])
    obtain ⟨o1, o2, _⟩ := walk_ok t e s hw1 ho hst
    obtain ⟨i1, i2⟩ := walk_has t e s hw1 ho hst
    obtain ⟨j1, j2⟩ := walk_has u e (walk t e s) hw2 o1 fun c hc => by have := hsu c hc; omega
    simp only [walk]
    refine ⟨fun k hk h => j1 k (by omega) (i1 k hk h), fun c hc h => ?_⟩
    have hl := us4_len c t
    have hl2 := us4_len c u
    simp only [PsoPlace.uf, us4] at h
    rw [PsoPlace.add4_get hl hl2 (by omega), PsoPlace.add4_get hl hl2 (by omega)] at h
    by_cases h1 : 0 < PsoPlace.uf c t 0 + PsoPlace.uf c t 1
    · exact j1 _ (by omega) (i2 c hc h1)
    · refine j2 c (by omega) ?_
      unfold PsoPlace.uf at h1 ⊢
      omega
end Srt
theorem used_level {p a : List UInt8} {k : Int} (h : levV p a = (k, true)) (hu : 0 < (usV p a).s + (usV p a).r) : 0 < k := by
  unfold levV at h
  split at h
  · rename_i hc
    obtain ⟨hwb, hcan⟩ := hc
    obtain ⟨hr, c, rfl, hcl, hm, hpv, hpn⟩ := with_name hwb
    obtain ⟨g1, g2, g3, g4⟩ := read_good hr
    have ho := Srt.of_ok g3
    obtain ⟨q1, q2, _⟩ := PFnExactCountUses.us_get hwb
    rw [q1, q2] at hu
    have hh := (Srt.walk_has (parsed p).1 (Srt.place (sortL (parsed p).1.fr)) (Srt.many (sortL (parsed p).1.fr).length) g3 (Srt.many_ok _) (Srt.of_sc g3)).2 c (by rw [Srt.many_n]; exact Srt.place_lt hm) hu
    have hh' : (Srt.of (parsed p).1).Has (Srt.place (sortL (parsed p).1.fr) c) := hh
    rw [← hpv] at hh' hpn
    generalize Srt.of (parsed p).1 = s at *
    generalize placeV p [c] = x at *
    obtain ⟨j, hj, hjn⟩ := lev_some ho.1 hcan hpn
    rw [hj] at h
    injection h with h1 _
    have hj0 : j ≠ 0 := by
      rintro rfl
      obtain ⟨_, z, _⟩ := ho.1.lvl_some hj
      have : s.it 1 (s.rt x : Int) = s.nxt x := by
        show s.stp (s.rt x : Int) = _
        unfold Srt.stp
        rw [if_neg (by omega), Int.toNat_natCast, Srt.nxt_root ho.1 hpn]
      rw [show 0 + 1 = 1 from rfl, this] at z
      unfold Srt.nxt at z
      unfold Srt.Has at hh'
      rw [if_neg (by omega)] at z
      omega
    simp only [Option.getD_some] at h1
    omega
  · injection h with _ h2; cases h2
theorem carried_level {p a : List UInt8} {k : Int} (h : levV p a = (k, true)) {c : UInt8} (hc : c ∈ (PFnExactCarriedBy.val p a).1) : levV p [c] = (k - 1, true) ∧ 1 ≤ k := by
  unfold levV at h
  split at h
  · rename_i hcn
    obtain ⟨hwb, hcan⟩ := hcn
    obtain ⟨hr, x0, rfl, hcl, hm, hpv, hpn⟩ := with_name hwb
    obtain ⟨g1, g2, g3, g4⟩ := read_good hr
    have ho := Srt.of_ok g3
    unfold PFnExactCarriedBy.val at hc
    rw [if_pos hwb, List.mem_filter] at hc
    obtain ⟨hc1, hc2⟩ := hc
    have hcl2 := sort_mem.mp hc1
    have hwb2 : withB p [[c]] = true := by
      simp only [withB, freeB, List.all_cons, List.all_nil, Bool.and_true, Bool.and_eq_true, hr, true_and]
      exact ⟨oneB_iff.mpr ⟨c, rfl, hcl2.1⟩, hcl2.2⟩
    obtain ⟨_, c', hcc, _, hm2, hpv2, hpn2⟩ := with_name hwb2
    injection hcc with hcc _
    subst hcc
    rw [← hpv] at hpn
    have hpc := hpn2
    rw [← hpv2] at hpc
    unfold PFnExactCarriedBy.hold at hc2
    rw [← hpv2] at hc2
    have hl2 : levV p [c] = if withB p [[c]] = true ∧ (Srt.of (parsed p).1).canBe = true then ((((((Srt.of (parsed p).1).lvl (placeV p [c])).getD 0 : Nat) : Int)), true) else (0, false) := rfl
    rw [if_pos ⟨hwb2, hcan⟩] at hl2
    rw [hl2]
    generalize Srt.of (parsed p).1 = s at *
    generalize placeV p [x0] = x at *
    generalize placeV p [c] = y at *
    obtain ⟨j, hj, hjn⟩ := lev_some ho.1 hcan hpn
    obtain ⟨i, hi, hin⟩ := lev_some ho.1 hcan hpc
    rw [hj] at h
    injection h with h1 _
    simp only [Option.getD_some] at h1
    rw [hi]
    simp only [Option.getD_some]
    have hc2 : ((s.rt y : Nat) : Int) = s.nxt x := by simpa using hc2
    have h0 : s.it 1 (s.rt x : Int) = (s.rt y : Int) := by
      show s.stp (s.rt x : Int) = _
      unfold Srt.stp
      rw [if_neg (by omega), Int.toNat_natCast, Srt.nxt_root ho.1 hpn]
      exact hc2.symm
    have hst : ∀ m, s.it (m + 1) (s.rt x : Int) = s.it m (s.rt y : Int) := fun m => by rw [Srt.it_add, h0]
    obtain ⟨_, z1, z2⟩ := ho.1.lvl_some hj
    obtain ⟨_, y1, y2⟩ := ho.1.lvl_some hi
    have hij : j = i + 1 := by
      rcases Nat.lt_trichotomy j (i + 1) with q | q | q
      · exfalso
        rw [hst] at z1
        have := y2 j (by omega)
        omega
      · exact q
      · exfalso
        have := z2 (i + 2) (by omega)
        rw [hst] at this
        omega
    subst hij
    refine ⟨?_, by omega⟩
    rw [← h1]
    congr 1
    omega
  · injection h with _ h2; cases h2

end Go.Proofs.YtjgfgjhaghbehaaGreat
/- The law FnExactUsesOf, walked: the program's answer is the reference's. -/
namespace Go.Proofs.YtjgfgjhaghbehaaGreat.PFnExactUsesOf
open Go.RowKit Go.Proofs.YtjgfgjhaghbehaaGreatW.PrintWords Go.Proofs.YtjgfgjhaghbehaaGreatW.PrintLast Go.Proofs.YtjgfgjhaghbehaaGreatW.PrintMore Go.Proofs.YtjgfgjhaghbehaaGreat.Pterm Go.Proofs.YtjgfgjhaghbehaaGreat.PsoPlace
set_option linter.unusedVariables false
set_option linter.unusedSimpArgs false

def dirs (u : Us) : List UInt8 := (if 0 < u.s then [33] else []) ++ (if 0 < u.r then [63] else [])
def out (p a : List UInt8) : Ending := .returned (.tuple #[.string (B (dirs (usV p a))), .bool (withB p [a])])
theorem with_one {p a : List UInt8} (h : withB p [a] = true) : readOk p = true ∧ ∃ c, a = [c] ∧ isLet c = true := by
  simp only [withB, freeB, List.all_cons, List.all_nil, Bool.and_true, Bool.and_eq_true] at h
  exact ⟨h.1, oneB_iff.mp h.2.1⟩

set_option maxHeartbeats 2000000 in
theorem UsesOf_calls (p a : List UInt8) (w : World) (hp : p.length ≤ 140737488351232) (ha : a.length ≤ 140737488351232) :
    Calls Tryz.prog 15 #[.string (B p), .string (B a)] w fun e w' => e = out p a ∧ Below w.heap.size w w' := by
  have hu := usesOf_calls p a w hp ha
  unfold Us.agg at hu
  have HV : Hid (out p a = .returned (.tuple #[.string (B (dirs (usV p a))), .bool (withB p [a])])) := rfl
  generalize usV p a = u at hu HV
  generalize withB p [a] = ok at hu HV
  have e33 : (⟨#[33]⟩ : ByteArray).size = 1 := rfl
  have e63 : (⟨#[63]⟩ : ByteArray).size = 1 := rfl
  have e0 : (⟨#[]⟩ : ByteArray).size = 0 := rfl
  go_enter Tryz.func15, Tryz.ntmps15
  go_wp2_with fail
  refine hu.mono ?_
  rintro e w1 ⟨rfl, hb⟩
  clear hu
  obtain ⟨w2, hW2⟩ : ∃ w2, w2 = w1.alloc (.cells #[.int .i64 u.s, .int .i64 u.r, .int .i64 u.h, .int .i64 u.m, .int .i64 u.g] 60) := ⟨_, rfl⟩
  have hb2 : Below w.heap.size w w2 := by rw [hW2]; exact hb.alloc hb.size _
  have hx : w2.heap[w1.heap.size]? = some (.cells #[.int .i64 u.s, .int .i64 u.r, .int .i64 u.h, .int .i64 u.m, .int .i64 u.g] 60 (0, 0)) := by rw [hW2]; exact heap_alloc_new w1 _
  have c0 : w2.cell? ⟨w1.heap.size, 0, none⟩ = some (.int .i64 u.s) := blk_cell hx 0
  have c1 : w2.cell? ⟨w1.heap.size, 1, none⟩ = some (.int .i64 u.r) := blk_cell hx 1
  have d0 : (w1.alloc (.cells #[.int .i64 u.s, .int .i64 u.r, .int .i64 u.h, .int .i64 u.m, .int .i64 u.g] 60)).cell? ⟨w1.heap.size, 0, none⟩ = some (.int .i64 u.s) := blk_cell (heap_alloc_new w1 _) 0
  have d1 : (w1.alloc (.cells #[.int .i64 u.s, .int .i64 u.r, .int .i64 u.h, .int .i64 u.m, .int .i64 u.g] 60)).cell? ⟨w1.heap.size, 1, none⟩ = some (.int .i64 u.r) := blk_cell (heap_alloc_new w1 _) 1
  have HB := Lib.hid hb2
  have HW := Lib.hid hW2
  clear hb hb2 hW2 hx c0 c1
  by_cases h1 : 0 < u.s
  · by_cases h2 : 0 < u.r
    · have HD : Hid (B (dirs u) = (⟨#[]⟩ : ByteArray) ++ (⟨#[33]⟩ : ByteArray) ++ (⟨#[63]⟩ : ByteArray)) := by simp only [Hid, dirs, if_pos h1, if_pos h2]; rfl
      go_wp2_with fail
      go_ret2
      exact ⟨by rw [HV.out, HD.out]; rfl, by rw [← HW.out]; exact HB.out⟩
    · have HD : Hid (B (dirs u) = (⟨#[]⟩ : ByteArray) ++ (⟨#[33]⟩ : ByteArray)) := by simp only [Hid, dirs, if_pos h1, if_neg h2]; rfl
      go_wp2_with fail
      go_ret2
      exact ⟨by rw [HV.out, HD.out]; rfl, by rw [← HW.out]; exact HB.out⟩
  · by_cases h2 : 0 < u.r
    · have HD : Hid (B (dirs u) = (⟨#[]⟩ : ByteArray) ++ (⟨#[63]⟩ : ByteArray)) := by simp only [Hid, dirs, if_neg h1, if_pos h2]; rfl
      go_wp2_with fail
      go_ret2
      exact ⟨by rw [HV.out, HD.out]; rfl, by rw [← HW.out]; exact HB.out⟩
    · have HD : Hid (B (dirs u) = (⟨#[]⟩ : ByteArray)) := by simp only [Hid, dirs, if_neg h1, if_neg h2]; rfl
      go_wp2_with fail
      go_ret2
      exact ⟨by rw [HV.out, HD.out]; rfl, by rw [← HW.out]; exact HB.out⟩

theorem us_get {p : List UInt8} {c : UInt8} (h : withB p [[c]] = true) : (usV p [c]).s = uf c (parsed p).1 0 ∧ (usV p [c]).r = uf c (parsed p).1 1 ∧ (usV p [c]).h = uf c (parsed p).1 2 ∧ (usV p [c]).m = uf c (parsed p).1 3 := by
  have e : usV p [c] = usF c false (parsed p).1 Us.zero := by unfold usV; rw [if_pos h]; rfl
  have h4 := us_four c (parsed p).1 false Us.zero
  have hl := us4_len c (parsed p).1
  rw [← e] at h4
  generalize usV p [c] = u at h4 ⊢
  unfold uf
  match h : us4 c (parsed p).1, hl with
  | [x0, x1, x2, x3], _ =>
    rw [h] at h4
    simp [Us.four, Us.zero, add4] at h4
    simpa using h4

set_option maxHeartbeats 2000000 in
theorem spec_calls (p a : List UInt8) (w : World) (hp : p.length ≤ 140737488351232) (ha : a.length ≤ 140737488351232) :
    Calls Tryz.prog 16 #[.string (B p), .string (B a)] w fun e w' => e = out p a ∧ Below w.heap.size w w' := by
  have hpl := place_f p a
  rcases hok : withB p [a] with _ | _
  · have HV : Hid (out p a = .returned (.tuple #[.string ⟨#[]⟩, .bool false])) := by simp only [Hid, out, usV, hok]; rfl
    rw [hok] at hpl
    clear hok
    go_enter Tryz.func16, Tryz.ntmps16
    go_wp2_with fail
    refine (spec_soPlace.calls 4000 (B p) (B a) _ _ _ hpl).mono ?_
    rintro e w1 ⟨rfl, hb⟩
    clear hpl
    go_wp2_with fail
    go_ret2
    exact ⟨by rw [HV.out]; rfl, hb⟩
  · obtain ⟨hr, c, rfl, hc⟩ := with_one hok
    have hu := us_get hok
    have HV : Hid (out p [c] = .returned (.tuple #[.string (B (dirs (usV p [c]))), .bool true])) := by simp only [Hid, out, hok]
    generalize usV p [c] = u at hu HV
    have HU := Lib.hid hu
    obtain ⟨g1, g2, g3, g4⟩ := read_good hr
    have HS : Hid (∀ W, Calls Tryz.prog 36 #[.string (B p), .int .u8 (vl c)] W fun e w' => ∃ g cc, e = .returned (.slice (some ⟨g, 0, none⟩) 4 cc) ∧ 4 ≤ cc ∧ Q4 W w' g (uf c (parsed p).1)) := fun W => by
      have := so_any c 60 (parsed p).1 W g4 (by omega) g3 (by rw [← g2]; omega)
      rw [← g2] at this
      exact this
    have hz : (B [c]).size = 1 := B_size [c]
    have hby := byte_of [c] 0 (by simp)
    rw [hok] at hpl
    clear hok hu hr g1 g2 g3 g4 hc
    go_enter Tryz.func16, Tryz.ntmps16
    go_wp2_with fail
    refine (spec_soPlace.calls 4000 (B p) (B [c]) _ _ _ hpl).mono ?_
    rintro e w1 ⟨rfl, hb⟩
    clear hpl
    go_wp2_with fail
    refine (HS.out _).mono ?_
    rintro e w2 ⟨g, cc, rfl, hcc, hq⟩
    have hb2 := below_then hb hb.size hq.below
    have c0 : w2.cell? ⟨g, 0, none⟩ = some (.int .i64 u.s) := by have := (hq.four.cell (i := 0) (by omega)).1; rw [← HU.out.1] at this; exact this
    have c1 : w2.cell? ⟨g, 1, none⟩ = some (.int .i64 u.r) := by have := (hq.four.cell (i := 1) (by omega)).1; rw [← HU.out.2.1] at this; exact this
    have HB := Lib.hid hb2
    have e33 : (⟨#[33]⟩ : ByteArray).size = 1 := rfl
    have e63 : (⟨#[63]⟩ : ByteArray).size = 1 := rfl
    have e0 : (⟨#[]⟩ : ByteArray).size = 0 := rfl
    clear hb hq hb2
    by_cases h1 : 0 < u.s
    · by_cases h2 : 0 < u.r
      · have HD : Hid (B (dirs u) = (⟨#[]⟩ : ByteArray) ++ (⟨#[33]⟩ : ByteArray) ++ (⟨#[63]⟩ : ByteArray)) := by simp only [Hid, dirs, if_pos h1, if_pos h2]; rfl
        go_wp2_with fail
        go_ret2
        exact ⟨by rw [HV.out, HD.out]; rfl, HB.out⟩
      · have HD : Hid (B (dirs u) = (⟨#[]⟩ : ByteArray) ++ (⟨#[33]⟩ : ByteArray)) := by simp only [Hid, dirs, if_pos h1, if_neg h2]; rfl
        go_wp2_with fail
        go_ret2
        exact ⟨by rw [HV.out, HD.out]; rfl, HB.out⟩
    · by_cases h2 : 0 < u.r
      · have HD : Hid (B (dirs u) = (⟨#[]⟩ : ByteArray) ++ (⟨#[63]⟩ : ByteArray)) := by simp only [Hid, dirs, if_neg h1, if_pos h2]; rfl
        go_wp2_with fail
        go_ret2
        exact ⟨by rw [HV.out, HD.out]; rfl, HB.out⟩
      · have HD : Hid (B (dirs u) = (⟨#[]⟩ : ByteArray)) := by simp only [Hid, dirs, if_neg h1, if_neg h2]; rfl
        go_wp2_with fail
        go_ret2
        exact ⟨by rw [HV.out, HD.out]; rfl, HB.out⟩


end Go.Proofs.YtjgfgjhaghbehaaGreat.PFnExactUsesOf
