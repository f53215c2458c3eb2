/- Strings as lists of bytes: the words of the printed functions (size, bt, extract, ++, toList) at a string that is given by its list. No program in sight. -/
import Derived.Test.YtjinjanjjecmiaaWWords
namespace Go.Proofs.Ytjinjanjjecmiaa
open Go.RowKit Go.Proofs.YtjinjanjjecmiaaW.PrintWords

/-- The string of a list of bytes. -/
def B (l : List UInt8) : ByteArray := ⟨l.toArray⟩
/-- A byte as a number. -/
def vl (c : UInt8) : Int := c.toNat
theorem vl_range (c : UInt8) : 0 ≤ vl c ∧ vl c ≤ 255 := by have := c.toNat_lt; unfold vl; omega
theorem vl_inj {b c : UInt8} : vl b = vl c ↔ b = c := by unfold vl; rw [Int.ofNat_inj, UInt8.toNat_inj]
/-- The byte at a place, as a number; 0 beyond the end. -/
def at_ (l : List UInt8) (i : Nat) : Int := ((l[i]?).map vl).getD 0

theorem B_of (s : ByteArray) : ∃ l, s = B l := ⟨s.data.toList, by cases s; simp [B]⟩
theorem B_inj {l m : List UInt8} (h : B l = B m) : l = m := by simpa [B] using h
theorem B_size (l : List UInt8) : (B l).size = l.length := by simp [B, ByteArray.size]
theorem B_data (l : List UInt8) : (B l).data.toList = l := by simp [B]
theorem B_toList (l : List UInt8) : (B l).toList = l := by
  have h : ∀ (s : ByteArray) (n i : Nat) (r : List UInt8), s.size - i = n → ByteArray.toList.loop s i r = r.reverse ++ s.data.toList.drop i := by
    intro s n
    induction n with
    | zero =>
      intro i r h
      unfold ByteArray.toList.loop
      rw [if_neg (by omega), List.drop_eq_nil_of_le (by rw [data_length]; omega), List.append_nil]
    | succ n ih =>
      intro i r h
      have hi : i < s.size := by omega
      unfold ByteArray.toList.loop
      rw [if_pos hi, ih (i + 1) _ (by omega), List.reverse_cons, List.append_assoc]
      congr 1
      have hd : s.data.toList.drop i = s.data.toList[i]'(by rw [data_length]; exact hi) :: s.data.toList.drop (i + 1) := List.drop_eq_getElem_cons _
      rw [hd]
      simp [ByteArray.get!, getElem!_def]
      rw [Array.getElem?_eq_getElem (by exact hi)]
  unfold ByteArray.toList
  rw [h _ _ _ _ rfl]
  simp [B]
theorem B_append (l m : List UInt8) : B l ++ B m = B (l ++ m) := by
  apply ByteArray.ext
  simp [B]
theorem B_extract (l : List UInt8) (i j : Nat) : (B l).extract i j = B ((l.take j).drop i) := by
  apply ByteArray.ext
  simp [B, ByteArray.data_extract, List.extract_eq_take_drop, List.drop_take]
theorem bt_B (l : List UInt8) (i : Int) : bt (B l) i = at_ l i.toNat := by
  unfold bt at_
  by_cases h : i.toNat < l.length
  · rw [dif_pos (by rw [B_size]; exact h), List.getElem?_eq_getElem h]
    rfl
  · rw [dif_neg (by rw [B_size]; exact h), List.getElem?_eq_none (by omega)]
    rfl
theorem at_range (l : List UInt8) (i : Nat) : 0 ≤ at_ l i ∧ at_ l i ≤ 255 := by
  unfold at_
  cases l[i]? with
  | none => simp
  | some c => exact vl_range c
theorem at_cons_zero (c : UInt8) (l : List UInt8) : at_ (c :: l) 0 = vl c := rfl
theorem at_cons_succ (c : UInt8) (l : List UInt8) (i : Nat) : at_ (c :: l) (i + 1) = at_ l i := rfl
theorem at_append (l m : List UInt8) (i : Nat) : at_ (l ++ m) (l.length + i) = at_ m i := by
  unfold at_; rw [List.getElem?_append_right (by omega)]; simp
theorem at_mid (l : List UInt8) (c : UInt8) (m : List UInt8) : at_ (l ++ c :: m) l.length = vl c := by
  have := at_append l (c :: m) 0; simpa [at_cons_zero] using this
theorem at_left (l m : List UInt8) (i : Nat) (h : i < l.length) : at_ (l ++ m) i = at_ l i := by
  unfold at_; rw [List.getElem?_append_left h]
theorem wrap_id {x : Int} (h0 : -9223372036854775808 ≤ x) (h1 : x ≤ 9223372036854775807) : wrap64 x = x := by unfold wrap64; omega

end Go.Proofs.Ytjinjanjjecmiaa
