/- The law FnExactReadCell, walked: the program's answer is the reference's. -/
import Derived.Test.YtjinjanjjecmiaaOneReadCell
import Derived.Test.YtjinjanjjecmiaaCoder
namespace Go.Proofs.Ytjinjanjjecmiaa.PFnExactReadCell
open Go.RowKit Go.Proofs.YtjinjanjjecmiaaW.PrintWords Go.Proofs.YtjinjanjjecmiaaW.PrintLast Go.Proofs.YtjinjanjjecmiaaW.PrintMore Go.Proofs.Ytjinjanjjecmiaa.Pterm Go.Proofs.Ytjinjanjjecmiaa.PReadCell
set_option linter.unusedVariables false
set_option linter.unusedSimpArgs false

def cellL (a x p : List UInt8) : List UInt8 := ((((((((a ++ [63]) ++ x) ++ [46, 40]) ++ a) ++ [33]) ++ x) ++ [46, 48, 38]) ++ p) ++ [41]
/-- What both say. -/
def val (a x p : List UInt8) : ByteArray × Bool := if oneB a = true ∧ oneB x = true ∧ readOk p = true ∧ a ≠ x then toldS false (cellL a x p) else (B [], false)
theorem cell_bytes (a x p : List UInt8) : (((((((((B a ++ (⟨#[63]⟩ : ByteArray)) ++ B x) ++ (⟨#[46, 40]⟩ : ByteArray)) ++ B a) ++ (⟨#[33]⟩ : ByteArray)) ++ B x) ++ (⟨#[46, 48, 38]⟩ : ByteArray)) ++ B p) ++ (⟨#[41]⟩ : ByteArray)) = B (cellL a x p) := by
  rw [show (⟨#[63]⟩ : ByteArray) = B [63] from rfl, show (⟨#[46, 40]⟩ : ByteArray) = B [46, 40] from rfl, show (⟨#[33]⟩ : ByteArray) = B [33] from rfl, show (⟨#[46, 48, 38]⟩ : ByteArray) = B [46, 48, 38] from rfl, show (⟨#[41]⟩ : ByteArray) = B [41] from rfl]
  simp only [B_append]
  rfl

set_option maxHeartbeats 2000000 in
theorem ReadCell_calls (a x p : List UInt8) (w : World) (ha : a.length ≤ 140737488351232) (hx : x.length ≤ 140737488351232) (hp : p.length ≤ 140737488351232) :
    Calls Try.prog 16 #[.string (B a), .string (B x), .string (B p)] w fun e w' => e = .returned (.tuple #[.string (val a x p).1, .bool (val a x p).2]) ∧ Below w.heap.size w w' := by
  have n1 := isName_calls a w ha
  have n2 := isName_calls x w hx
  have np := isProcess_calls p w hp
  rcases h1 : oneB a with _ | _
  · rw [h1] at n1
    have hv : Hid (val a x p = (B [], false)) := by simp [Hid, val, h1]
    clear h1
    go_enter Try.func16, Try.ntmps16
    go_wp2_with fail
    refine n1.mono ?_
    rintro e w' ⟨rfl, rfl⟩
    go_wp2_with fail
    go_ret2
    exact ⟨by rw [hv.out]; rfl, Below.refl _ _⟩
  rw [h1] at n1
  rcases h2 : oneB x with _ | _
  · rw [h2] at n2
    have hv : Hid (val a x p = (B [], false)) := by simp [Hid, val, h2]
    clear h1 h2
    go_enter Try.func16, Try.ntmps16
    go_wp2_with fail
    refine n1.mono ?_
    rintro e w' ⟨rfl, rfl⟩
    go_wp2_with fail
    refine n2.mono ?_
    rintro e w' ⟨rfl, rfl⟩
    go_wp2_with fail
    go_ret2
    exact ⟨by rw [hv.out]; rfl, Below.refl _ _⟩
  rw [h2] at n2
  rcases h3 : readOk p with _ | _
  · rw [h3] at np
    have hv : Hid (val a x p = (B [], false)) := by simp [Hid, val, h3]
    clear h1 h2 h3
    go_enter Try.func16, Try.ntmps16
    go_wp2_with fail
    refine n1.mono ?_
    rintro e w' ⟨rfl, rfl⟩
    go_wp2_with fail
    refine n2.mono ?_
    rintro e w' ⟨rfl, rfl⟩
    go_wp2_with fail
    refine np.mono ?_
    rintro e w' ⟨rfl, hb⟩
    go_wp2_with fail
    go_ret2
    exact ⟨by rw [hv.out]; rfl, hb⟩
  rw [h3] at np
  obtain ⟨c, rfl, hc⟩ := oneB_iff.mp h1
  obtain ⟨d, rfl, hd⟩ := oneB_iff.mp h2
  by_cases hcd : c = d
  · have hv : Hid (val [c] [d] p = (B [], false)) := by simp [Hid, val, hcd]
    have he : ((B [c]).toList == (B [d]).toList) = true := by rw [B_toList, B_toList, hcd]; simp
    clear h1 h2 h3 hcd hc hd
    go_enter Try.func16, Try.ntmps16
    go_wp2_with fail
    refine n1.mono ?_
    rintro e w' ⟨rfl, rfl⟩
    go_wp2_with fail
    refine n2.mono ?_
    rintro e w' ⟨rfl, rfl⟩
    go_wp2_with fail
    refine np.mono ?_
    rintro e w' ⟨rfl, hb⟩
    go_wp2_with fail
    go_ret2
    exact ⟨by rw [hv.out]; rfl, hb⟩
  · have hv : Hid (val [c] [d] p = toldS false (cellL [c] [d] p)) := by simp [Hid, val, h1, h2, h3, hcd]
    have he : ((B [c]).toList == (B [d]).toList) = false := by rw [B_toList, B_toList]; simpa using hcd
    have HE := Lib.hid (cell_bytes [c] [d] p)
    have z1 : (B [c]).size = 1 := B_size _
    have z2 : (B [d]).size = 1 := B_size _
    have z3 : (B p).size = p.length := B_size _
    have HL : Hid (p.length ≤ 300) := (read_good h3).1
    clear h1 h2 h3
    go_enter Try.func16, Try.ntmps16
    go_wp2_with fail
    refine n1.mono ?_
    rintro e w' ⟨rfl, rfl⟩
    go_wp2_with fail
    refine n2.mono ?_
    rintro e w' ⟨rfl, rfl⟩
    go_wp2_with fail
    refine np.mono ?_
    rintro e w1 ⟨rfl, hb⟩
    go_wp2_with fail
    rw [HE.out]
    refine (coderTold_calls w1.heap.size false (cellL [c] [d] p) _ (blk_cell (heap_alloc_new w1 _) 0) (by have := HL.out; simp [cellL]; omega)).mono ?_
    rintro e w2 ⟨rfl, hb2⟩
    have hb4 := hb.alloc hb.size (.cells #[.bool false] 39)
    have hb3 : Below w.heap.size w w2 := below_then hb4 hb4.size hb2
    clear hb4 hb2 hb
    go_wp2_with fail
    go_ret2
    exact ⟨by rw [hv.out]; rfl, hb3⟩

theorem spec_val (a x p : List UInt8) : spec_ReadCell.f 3000 (B a) (B x) (B p) = some ((val a x p).1, (val a x p).2) := by
  unfold spec_ReadCell.f
  rw [one_f, one_f, good_f p 3000 (by omega)]
  simp only [Option.bind_some, B_toList]
  rcases h1 : oneB a with _ | _
  · simp [val, h1]; rfl
  rcases h2 : oneB x with _ | _
  · simp [val, h1, h2]; rfl
  by_cases h4 : a = x
  · simp [val, h1, h2, h4]; rfl
  rcases h3 : readOk p with _ | _
  · simp [val, h1, h2, h3, h4]; rfl
  have hv : val a x p = toldS false (cellL a x p) := by simp [val, h1, h2, h3, h4]
  rw [hv]
  obtain ⟨c, rfl, _⟩ := oneB_iff.mp h1
  obtain ⟨d, rfl, _⟩ := oneB_iff.mp h2
  have hl := (read_good h3).1
  rw [cell_bytes]
  have s63 : (⟨#[63]⟩ : ByteArray).size = 1 := rfl
  have s33 : (⟨#[33]⟩ : ByteArray).size = 1 := rfl
  have s46 : (⟨#[46, 40]⟩ : ByteArray).size = 2 := rfl
  have s48 : (⟨#[46, 48, 38]⟩ : ByteArray).size = 3 := rfl
  simp only [ByteArray.size_append, B_size, List.length_cons, List.length_nil, s63, s33, s46, s48]
  rw [if_pos trivial, if_pos trivial, if_neg h4, if_pos trivial, if_pos (by omega), if_pos (by omega), if_pos (by omega), if_pos (by omega), if_pos (by omega), if_pos (by omega), if_pos (by omega), if_pos (by omega), if_pos (by omega), if_f _ 3000 (by omega)]
  simp only [toldS, true_and]
  split <;> rfl

set_option maxHeartbeats 1000000 in
theorem law_walk (s t u : ByteArray) (w : World) (hs : s.size ≤ 140737488351232) (ht : t.size ≤ 140737488351232) (hu : u.size ≤ 140737488351232) :
    Calls Try.prog 3 #[.string s, .string t, .string u] w fun e w' => e = .returned (.bool true) ∧ Below w.heap.size w w' := by
  obtain ⟨a, rfl⟩ := B_of s
  obtain ⟨x, rfl⟩ := B_of t
  obtain ⟨p, rfl⟩ := B_of u
  have hz : (B a).size = a.length := B_size a
  have hz2 : (B x).size = x.length := B_size x
  have hz3 : (B p).size = p.length := B_size p
  rw [hz] at hs
  rw [hz2] at ht
  rw [hz3] at hu
  by_cases hbig : a.length > 1048576
  · go_enter Try.func3, Try.ntmps3
    go_wp2_with fail
    go_ret
    exact ⟨rfl, Below.refl _ _⟩
  by_cases hbig2 : x.length > 1048576
  · go_enter Try.func3, Try.ntmps3
    go_wp2_with fail
    go_ret
    exact ⟨rfl, Below.refl _ _⟩
  by_cases hbig3 : p.length > 1048576
  · go_enter Try.func3, Try.ntmps3
    go_wp2_with fail
    go_ret
    exact ⟨rfl, Below.refl _ _⟩
  · have HF := Lib.hid (spec_val a x p)
    go_enter Try.func3, Try.ntmps3
    go_wp2_with fail
    refine (spec_ReadCell.calls 3000 (B a) (B x) (B p) _ _ _ HF.out).mono ?_
    rintro e w1 ⟨rfl, hb1⟩
    go_wp2_with fail
    refine (ReadCell_calls a x p _ hs ht hu).mono ?_
    rintro e w2 ⟨rfl, hb⟩
    replace hb := below_then hb1 hb1.size hb
    clear hb1
    go_wp2_with fail
    go_ret
    exact ⟨rfl, hb⟩

end Go.Proofs.Ytjinjanjjecmiaa.PFnExactReadCell
