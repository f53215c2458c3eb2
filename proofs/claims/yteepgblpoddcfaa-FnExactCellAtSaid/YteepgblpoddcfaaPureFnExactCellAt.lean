/- The program's CellAt answers as the reference's, at all texts of at most 2^20 bytes. -/
import Derived.Test.YteepgblpoddcfaaGoodFnExactCellAt
namespace Go.Proofs.Yteepgblpoddcfaa.Pure
open Go.RowKit Go.Proofs.Yteepgblpoddcfaa.PFnExactCellAt Go.Proofs.YteepgblpoddcfaaW.PrintWords Go.Proofs.YteepgblpoddcfaaW.PrintLast

theorem one_spec (l : List UInt8) : ∃ b, spec_tmOne.f (B l) = some b ∧ impl_isName.f (B l) = some b ∧ (b = true → ∃ c, l = [c] ∧ isLet c = true) := by
  match l with
  | [] => exact ⟨false, by simp [spec_tmOne.f, B_size], by simp [impl_isName.f, B_size], fun h => by cases h⟩
  | [c] =>
    refine ⟨isLet c, ?_, ?_, fun h => ⟨c, rfl, h⟩⟩
    · simp only [spec_tmOne.f, B_size, bt_B]
      rw [if_pos (by rfl), if_pos (by simp)]
      show (if vl c ≥ 97 then some (decide (vl c ≤ 122)) else some false) = _
      unfold isLet
      by_cases h : vl c ≥ 97 <;> simp [h]
    · simp only [impl_isName.f, impl_isLetter.f, B_size, bt_B]
      rw [if_pos (by rfl), if_pos (by simp)]
      show ((if vl c ≥ 97 then some (decide (vl c ≤ 122)) else some false).bind fun t => some t) = _
      unfold isLet
      by_cases h : vl c ≥ 97 <;> simp [h]
  | a :: b :: l =>
    refine ⟨false, ?_, ?_, fun h => by cases h⟩
    · simp only [spec_tmOne.f, B_size, List.length_cons]
      rw [if_neg (by omega)]
    · simp only [impl_isName.f, B_size, List.length_cons]
      rw [if_neg (by omega)]

theorem FnExactCellAt : laws_FnExactCellAt.Pure := by
  intro s t _ _
  refine ⟨3000, ?_⟩
  unfold laws_FnExactCellAt.f
  by_cases h1 : (s.size : Int) > 1048576
  · rw [if_pos h1]
  by_cases h2 : (t.size : Int) > 1048576
  · rw [if_neg h1, if_pos h2]
  rw [if_neg h1, if_neg h2]
  obtain ⟨l, rfl⟩ := B_of s
  obtain ⟨m, rfl⟩ := B_of t
  obtain ⟨a, ha1, ha2, ha3⟩ := one_spec l
  obtain ⟨b, hb1, hb2, hb3⟩ := one_spec m
  unfold spec_CellAt.f impl_CellAt.f
  rw [ha1, ha2, hb1, hb2]
  cases a with
  | false => simp
  | true =>
    cases b with
    | false => simp
    | true =>
      obtain ⟨x, rfl, hx⟩ := ha3 rfl
      obtain ⟨y, rfl, hy⟩ := hb3 rfl
      have e : ((B [x] ++ (⟨#[33]⟩ : ByteArray)) ++ B [y]) ++ (⟨#[46, 48]⟩ : ByteArray) = B (Tm.un 33 x y (.leaf 48 0 0)).text := by
        rw [show (⟨#[33]⟩ : ByteArray) = B [33] from rfl, show (⟨#[46, 48]⟩ : ByteArray) = B [46, 48] from rfl, B_append, B_append, B_append]
        rfl
      have hw : Wf isLet (Tm.un 33 x y (.leaf 48 0 0)) := ⟨.inl ⟨.inl rfl, hx, hy⟩, rfl, rfl, rfl⟩
      have hok : readOk (Tm.un 33 x y (.leaf 48 0 0)).text = true := by rw [read_text hw]; rfl
      have z1 : (B [x]).size = 1 := B_size _
      have z2 : (B [x] ++ (⟨#[33]⟩ : ByteArray)).size = 2 := by rw [show (⟨#[33]⟩ : ByteArray) = B [33] from rfl, B_append, B_size]; rfl
      have z3 : ((B [x] ++ (⟨#[33]⟩ : ByteArray)) ++ B [y]).size = 3 := by rw [show (⟨#[33]⟩ : ByteArray) = B [33] from rfl, B_append, B_append, B_size]; rfl
      have z4 : (B [y]).size = 1 := B_size _
      simp only [Option.bind_some, if_true, z1, z2, z3, z4, e]
      rw [if_pos (by decide), if_pos (by decide), if_pos (by decide)]
      unfold spec_tmIf.f
      rw [good_f _ 3000 (by omega), hok]
      simp

end Go.Proofs.Yteepgblpoddcfaa.Pure
