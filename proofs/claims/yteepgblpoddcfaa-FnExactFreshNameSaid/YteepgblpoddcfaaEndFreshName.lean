/- The law FnExactFreshName, walked: the program's first name that is not in a text is the reference's. -/
import Derived.Test.YteepgblpoddcfaaFreshFreshName
import Derived.Test.YteepgblpoddcfaaFreshI
import Derived.Test.YteepgblpoddcfaaNames
namespace Go.Proofs.Yteepgblpoddcfaa.PFnExactFreshName
open Go.RowKit Go.Proofs.YteepgblpoddcfaaW.PrintWords Go.Proofs.YteepgblpoddcfaaW.PrintLast Go.Proofs.YteepgblpoddcfaaW.PrintMore Go.Proofs.Yteepgblpoddcfaa.PFreshName
set_option linter.unusedVariables false
set_option linter.unusedSimpArgs false

/-- What both say. -/
def val (l : List UInt8) : List UInt8 × Bool := if l.all isLet = true then (match freshOf (inS l) with | some c => ([c], true) | none => ([], false)) else ([], false)

set_option maxHeartbeats 1000000 in
theorem FreshName_calls (l : List UInt8) (w : World) (hl : l.length ≤ 140737488351232) :
    Calls Try.prog 22 #[.string (B l)] w fun e w' => e = .returned (.tuple #[.string (B (val l).1), .bool (val l).2]) ∧ w = w' := by
  go_enter Try.func22, Try.ntmps22
  go_wp2_with fail
  refine (areNames_calls l w hl).mono ?_
  rintro e w' ⟨rfl, rfl⟩
  rcases hall : l.all isLet with _ | _
  · have hv : Hid (val l = ([], false)) := by simp [Hid, val, hall]
    clear hall
    go_wp2_with fail
    go_ret2
    exact ⟨by rw [hv.out]; rfl, rfl⟩
  · have HA := Lib.hid hall
    clear hall
    go_wp2_with fail
    refine (setOf_calls l w hl (by have := HA.out; rw [List.all_eq_true] at this; exact this)).mono ?_
    rintro e w' ⟨rfl, rfl⟩
    go_wp2_with fail
    refine (fresh_calls _ _).mono ?_
    rintro e w' ⟨rfl, rfl⟩
    rcases hf : freshOf (inS l) with _ | c
    · have hv : Hid (val l = ([], false)) := by simp only [Hid, val, HA.out, hf]; rfl
      clear hf
      simp only [freshInt, Option.isSome_none]
      go_wp2_with fail
      go_ret2
      exact ⟨by rw [hv.out]; rfl, rfl⟩
    · have hv : Hid (val l = ([c], true)) := by simp only [Hid, val, HA.out, hf]; rfl
      have HE := Lib.hid (enc_small (let_lt (freshOf_let hf).1))
      obtain ⟨v0, v1⟩ := vl_range c
      clear hf
      simp only [freshInt, Option.isSome_some]
      go_wp2_with fail
      go_ret2
      exact ⟨by rw [hv.out, ← HE.out]; rfl, rfl⟩

theorem vals_l (s : List UInt8) (hs : s.length ≤ 100000000) (n : Nat) : ∀ (i k : Nat) (l : List UInt8), At s i l → l.length ≤ n → s.length + n + 200 ≤ k →
    spec_FreshName.l0 k (B s) i = some (if l.all isLet = true then (match freshOf (inS s) with | some c => (B [c], true) | none => (B [], false)) else (B [], false)) := by
  have hend : ∀ k, s.length + 100 ≤ k → ((spec_tmFresh.f k (B s)).bind fun t103 => (if t103 > 122 then (some ((⟨#[]⟩ : ByteArray), false)) else (some (strOfNums (([t103] : List Int)), true)))) = some (match freshOf (inS s) with | some c => (B [c], true) | none => (B [], false)) := by
    intro k hk
    rw [tmFresh_f s k hs hk, Option.bind_some]
    unfold freshB
    rcases hf : freshOf (inS s) with _ | c
    · have hb : ∀ x, x ∈ beyFrom 0 → vl x > 122 := by
        intro x hx
        unfold beyFrom at hx
        rw [List.mem_map] at hx
        obtain ⟨j, hj, rfl⟩ := hx
        rw [List.mem_range] at hj
        rw [bey_vl (by omega)]; omega
      have hg : vl (((beyFrom 0).find? fun c => !inS s c).getD 191) > 122 := by
        rcases hfi : (beyFrom 0).find? (fun c => !inS s c) with _ | x
        · decide
        · exact hb x (List.mem_of_find?_eq_some hfi)
      simp only []
      rw [if_pos hg]; rfl
    · have := (freshOf_let hf).1
      simp [isLet] at this
      simp only []
      rw [if_neg (by omega)]
      simp [strOfNums, B, vl]
  induction n with
  | zero =>
    intro i k l h hl hk
    have : l = [] := List.length_eq_zero_iff.mp (by omega)
    subst this
    obtain ⟨k, rfl⟩ : ∃ m, k = m + 1 := ⟨k - 1, by omega⟩
    rw [spec_FreshName.l0, h.size, if_neg (by simp), hend k (by omega)]; rfl
  | succ n ih =>
    intro i k l h hl hk
    obtain ⟨k, rfl⟩ : ∃ m, k = m + 1 := ⟨k - 1, by omega⟩
    cases l with
    | nil => rw [spec_FreshName.l0, h.size, if_neg (by simp), hend k (by omega)]; rfl
    | cons d l =>
      have hz := h.size
      have hn := h.len
      simp only [List.length_cons] at hz hl hn
      have e := ih (i + 1) k l h.step (by omega) (by omega)
      have w : wrap64 ((i : Int) + 1) = (i + 1 : Nat) := by rw [wrap_id (by omega) (by omega)]; omega
      rw [spec_FreshName.l0, if_pos (by omega), if_pos (by omega), h.bt i 0 (by omega), at_cons_zero, w, e]
      by_cases h1 : vl d < 97
      · have ed : isLet d = false := by simp [isLet]; omega
        rw [if_pos h1]; simp [ed, B]
      · rw [if_neg h1]
        by_cases h2 : vl d > 122
        · have ed : isLet d = false := by simp [isLet]; omega
          rw [if_pos h2]; simp [ed, B]
        · have ed : isLet d = true := by simp [isLet]; omega
          rw [if_neg h2]; simp only [List.all_cons, ed, Bool.true_and]

theorem spec_val (l : List UInt8) (hl : l.length ≤ 1048576) : spec_FreshName.f 3000000 (B l) = some (B (val l).1, (val l).2) := by
  have h := vals_l l (by omega) l.length 0 3000000 l (At.start l) (Nat.le_refl _) (by omega)
  unfold spec_FreshName.f
  refine h.trans ?_
  unfold val
  split
  · cases freshOf (inS l) <;> rfl
  · rfl

set_option maxHeartbeats 1000000 in
theorem law_walk (s : ByteArray) (w : World) (hs : s.size ≤ 140737488351232) :
    Calls Try.prog 7 #[.string s] w fun e w' => e = .returned (.bool true) ∧ Below w.heap.size w w' := by
  obtain ⟨l, rfl⟩ := B_of s
  have hz : (B l).size = l.length := B_size l
  rw [hz] at hs
  by_cases hbig : l.length > 1048576
  · go_enter Try.func7, Try.ntmps7
    go_wp2_with fail
    go_ret
    exact ⟨rfl, Below.refl _ _⟩
  · have HF := Lib.hid (spec_val l (by omega))
    go_enter Try.func7, Try.ntmps7
    go_wp2_with fail
    refine (spec_FreshName.calls 3000000 (B l) _ _ _ HF.out).mono ?_
    rintro e w1 ⟨rfl, hb⟩
    go_wp2_with fail
    refine (FreshName_calls l _ hs).mono ?_
    rintro e w' ⟨rfl, rfl⟩
    go_wp2_with fail
    go_ret
    exact ⟨rfl, hb⟩

end Go.Proofs.Yteepgblpoddcfaa.PFnExactFreshName
