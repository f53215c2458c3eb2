/- The law FnExactForwardAt, walked: the program's answer is the reference's. -/
import Derived.Test.YtfcadppidgkoaaaOneForwardAt
import Derived.Test.YtfcadppidgkoaaaFreshForwardAt
import Derived.Test.YtfcadppidgkoaaaHighForwardAt
import Derived.Test.YtfcadppidgkoaaaCoderF
import Derived.Test.YtfcadppidgkoaaaIsName
namespace Go.Proofs.Ytfcadppidgkoaaa.PFnExactForwardAt
open Go.RowKit Go.Proofs.YtfcadppidgkoaaaW.PrintWords Go.Proofs.YtfcadppidgkoaaaW.PrintLast Go.Proofs.YtfcadppidgkoaaaW.PrintMore Go.Proofs.Ytfcadppidgkoaaa.Pterm Go.Proofs.Ytfcadppidgkoaaa.PForwardAt
set_option linter.unusedVariables false
set_option linter.unusedSimpArgs false

def fwdL (a b x : List UInt8) : List UInt8 := ((((((([42] ++ a) ++ [63]) ++ x) ++ [46]) ++ b) ++ [33]) ++ x) ++ [46, 48]
/-- What both say. -/
def val (a b : List UInt8) : ByteArray × Bool := if oneB a = true ∧ oneB b = true then toldS (freshOf (inS [a, b].flatten)).isNone (fwdL a b [freshC (inS [a, b].flatten)]) else (B [], false)
theorem fwd_bytes (a b x : List UInt8) : (((((((((⟨#[42]⟩ : ByteArray) ++ B a) ++ (⟨#[63]⟩ : ByteArray)) ++ B x) ++ (⟨#[46]⟩ : ByteArray)) ++ B b) ++ (⟨#[33]⟩ : ByteArray)) ++ B x) ++ (⟨#[46, 48]⟩ : ByteArray)) = B (fwdL a b x) := by
  rw [show (⟨#[63]⟩ : ByteArray) = B [63] from rfl, show (⟨#[46]⟩ : ByteArray) = B [46] from rfl, show (⟨#[33]⟩ : ByteArray) = B [33] from rfl, show (⟨#[46, 48]⟩ : ByteArray) = B [46, 48] from rfl, show (⟨#[42]⟩ : ByteArray) = B [42] from rfl]
  simp only [B_append]
  rfl

set_option maxHeartbeats 2000000 in
theorem ForwardAt_calls (a b : List UInt8) (w : World) (ha : a.length ≤ 140737488351232) (hx : b.length ≤ 140737488351232) :
    Calls Try.prog 25 #[.string (B a), .string (B b)] w fun e w' => e = .returned (.tuple #[.string (val a b).1, .bool (val a b).2]) ∧ Below w.heap.size w w' := by
  have n1 := isName_calls a w ha
  have n2 := isName_calls b w hx
  rcases h1 : oneB a with _ | _
  · rw [h1] at n1
    have hv : Hid (val a b = (B [], false)) := by simp [Hid, val, h1]
    clear h1
    go_enter Try.func25, Try.ntmps25
    go_wp2_with fail
    refine n1.mono ?_
    rintro e w' ⟨rfl, rfl⟩
    go_wp2_with fail
    go_ret2
    exact ⟨by rw [hv.out]; rfl, Below.refl _ _⟩
  rw [h1] at n1
  rcases h2 : oneB b with _ | _
  · rw [h2] at n2
    have hv : Hid (val a b = (B [], false)) := by simp [Hid, val, h2]
    clear h1 h2
    go_enter Try.func25, Try.ntmps25
    go_wp2_with fail
    refine n1.mono ?_
    rintro e w' ⟨rfl, rfl⟩
    go_wp2_with fail
    refine n2.mono ?_
    rintro e w' ⟨rfl, rfl⟩
    go_wp2_with fail
    go_ret2
    exact ⟨by rw [hv.out]; rfl, Below.refl _ _⟩
  rw [h2] at n2
  have hv : Hid (val a b = toldS (freshOf (inS [a, b].flatten)).isNone (fwdL a b [freshC (inS [a, b].flatten)])) := by simp only [Hid, val, h1, h2]; simp
  obtain ⟨c, rfl, hc⟩ := oneB_iff.mp h1
  obtain ⟨d, rfl, hd⟩ := oneB_iff.mp h2
  have HLET : Hid (∀ x, x ∈ [[c], [d]].flatten → isLet x = true) := by
    intro x hx
    simp at hx
    rcases hx with rfl | rfl <;> assumption
  have HC : Hid (∀ o, Cod w ((w.alloc (.cells #[.bool false] 69)).alloc o) w.heap.size false) := fun o => (cod_new (Below.refl _ _) false _).alloc o
  have HT : Hid (∀ e, Texts ((w.alloc (.cells #[.bool false] 69)).alloc (.cells #[.string (B [c]), .string (B [d])] e)) (w.heap.size + 1) [[c], [d]]) := fun e => by
    have := texts_new (w.alloc (.cells #[.bool false] 69)) [[c], [d]] e
    simpa using this
  have z1 : (B [c]).size = 1 := B_size _
  have z2 : (B [d]).size = 1 := B_size _
  clear h1 h2 hc hd ha hx
  go_enter Try.func25, Try.ntmps25
  go_wp2_with fail
  refine n1.mono ?_
  rintro e w' ⟨rfl, rfl⟩
  go_wp2_with fail
  refine n2.mono ?_
  rintro e w' ⟨rfl, rfl⟩
  go_wp2_with fail
  refine (coderFresh_calls (HC.out _) _ 2 [[c], [d]] (HT.out _) (by simp) (by simp) (by simp) HLET.out).mono ?_
  rintro e w3 ⟨rfl, hc3⟩
  rw [Bool.false_or] at hc3
  clear HC HT HLET n1 n2
  generalize (freshOf (inS [[c], [d]].flatten)).isNone = bad at hc3 hv
  generalize freshC (inS [[c], [d]].flatten) = x at hv ⊢
  have HE := Lib.hid (fwd_bytes [c] [d] [x])
  have z3 : (B [x]).size = 1 := B_size _
  have HC3 := Lib.hid hc3
  clear hc3
  go_wp2_with fail
  rw [HE.out]
  obtain ⟨e, hg⟩ := HC3.out.cell
  refine (coderTold_calls w.heap.size bad (fwdL [c] [d] [x]) _ (blk_cell hg 0) (by simp [fwdL])).mono ?_
  rintro e w4 ⟨rfl, hb4⟩
  have hb5 := below_then HC3.out.below HC3.out.below.size hb4
  clear hb4 hg
  go_wp2_with fail
  go_ret2
  exact ⟨by rw [hv.out]; rfl, hb5⟩

theorem spec_val (a b : List UInt8) : spec_ForwardAt.f 4000 (B a) (B b) = some ((val a b).1, (val a b).2) := by
  unfold spec_ForwardAt.f
  rw [one_f, one_f]
  simp only [Option.bind_some]
  rcases h1 : oneB a with _ | _
  · rw [spec_ForwardAt.j0]; simp [val, h1]; rfl
  rcases h2 : oneB b with _ | _
  · rw [spec_ForwardAt.j0]; simp [val, h1, h2]; rfl
  obtain ⟨c, rfl, _⟩ := oneB_iff.mp h1
  obtain ⟨d, rfl, _⟩ := oneB_iff.mp h2
  have hv : val [c] [d] = toldS (freshOf (inS [c, d])).isNone (fwdL [c] [d] [freshC (inS [c, d])]) := by simp only [val, h1, h2]; simp
  have hf : spec_tmFresh.f 3999 (B [c] ++ B [d]) = some (vl (freshB (inS [c, d]))) := by
    rw [B_append]; exact tmFresh_f [c, d] 3999 (by simp) (by simp)
  have hcd : spec_cdText.f (vl (freshB (inS [c, d]))) = some (B [freshB (inS [c, d])]) := by
    simp [spec_cdText.f, strOfNums, B, vl]
  rw [hv, if_pos rfl, spec_ForwardAt.j0, hf]
  simp only [Option.bind_some, hcd, fwd_bytes]
  generalize hx : freshB (inS [c, d]) = x
  have s63 : (⟨#[63]⟩ : ByteArray).size = 1 := rfl
  have s33 : (⟨#[33]⟩ : ByteArray).size = 1 := rfl
  have s46 : (⟨#[46]⟩ : ByteArray).size = 1 := rfl
  have s42 : (⟨#[42]⟩ : ByteArray).size = 1 := rfl
  simp only [ByteArray.size_append, B_size, List.length_cons, List.length_nil, s63, s33, s46, s42]
  rw [if_neg (by decide), if_pos (by omega)]
  repeat rw [if_pos (by omega)]
  rw [if_f _ 3999 (by omega)]
  cases hf : freshOf (inS [c, d]) with
  | some y =>
    rw [freshB_some hf] at hx
    subst hx
    simp only [toldS, freshC, hf, Option.getD_some, Option.isNone_some, true_and, Option.bind_some]
    try (split <;> rfl)
  | none =>
    have hh := freshB_none hf
    rw [hx] at hh
    rw [not_read (l := fwdL [c] [d] [x]) (c := x) (by simp [fwdL]) hh]
    try simp [toldS]
    try rfl

set_option maxHeartbeats 1000000 in
theorem law_walk (s t : ByteArray) (w : World) (hs : s.size ≤ 140737488351232) (ht : t.size ≤ 140737488351232) :
    Calls Try.prog 6 #[.string s, .string t] w fun e w' => e = .returned (.bool true) ∧ Below w.heap.size w w' := by
  obtain ⟨l, rfl⟩ := B_of s
  obtain ⟨m, rfl⟩ := B_of t
  have hz : (B l).size = l.length := B_size l
  have hz2 : (B m).size = m.length := B_size m
  rw [hz] at hs
  rw [hz2] at ht
  by_cases hbig : l.length > 1048576
  · go_enter Try.func6, Try.ntmps6
    go_wp2_with fail
    go_ret
    exact ⟨rfl, Below.refl _ _⟩
  by_cases hbig2 : m.length > 1048576
  · go_enter Try.func6, Try.ntmps6
    go_wp2_with fail
    go_ret
    exact ⟨rfl, Below.refl _ _⟩
  · have HF := Lib.hid (spec_val l m)
    go_enter Try.func6, Try.ntmps6
    go_wp2_with fail
    refine (spec_ForwardAt.calls 4000 (B l) (B m) _ _ _ HF.out).mono ?_
    rintro e w1 ⟨rfl, hb1⟩
    go_wp2_with fail
    refine (ForwardAt_calls l m _ hs ht).mono ?_
    rintro e w2 ⟨rfl, hb⟩
    replace hb := below_then hb1 hb1.size hb
    clear hb1
    go_wp2_with fail
    go_ret
    exact ⟨rfl, hb⟩

end Go.Proofs.Ytfcadppidgkoaaa.PFnExactForwardAt
