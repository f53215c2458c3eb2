/- The law FnExactWriteCell, walked: the program's answer is the reference's. -/
import Derived.Test.YtfcadppidgkoaaaOneWriteCell
import Derived.Test.YtfcadppidgkoaaaFreshWriteCell
import Derived.Test.YtfcadppidgkoaaaFreeSWriteCell
import Derived.Test.YtfcadppidgkoaaaHighWriteCell
import Derived.Test.YtfcadppidgkoaaaCods
import Derived.Test.YtfcadppidgkoaaaIsName
namespace Go.Proofs.Ytfcadppidgkoaaa.PFnExactWriteCell
open Go.RowKit Go.Proofs.YtfcadppidgkoaaaW.PrintWords Go.Proofs.YtfcadppidgkoaaaW.PrintLast Go.Proofs.YtfcadppidgkoaaaW.PrintMore Go.Proofs.Ytfcadppidgkoaaa.Pterm Go.Proofs.Ytfcadppidgkoaaa.PWriteCell
set_option linter.unusedVariables false
set_option linter.unusedSimpArgs false

def wrL (a v p x : List UInt8) : List UInt8 := ((((((((a ++ [63]) ++ x) ++ [46, 40]) ++ a) ++ [33]) ++ v) ++ [46, 48, 38]) ++ p) ++ [41]
/-- The names that are taken. -/
def tkn (a v p : List UInt8) : List (List UInt8) := [a, v, sortL (parsed p).1.fr]
/-- What both say. -/
def val (a v p : List UInt8) : ByteArray × Bool := if oneB a = true ∧ oneB v = true ∧ readOk p = true then toldS (freshOf (inS (tkn a v p).flatten)).isNone (wrL a v p [freshC (inS (tkn a v p).flatten)]) else (B [], false)
theorem wr_bytes (a v p x : List UInt8) : (((((((((B a ++ (⟨#[63]⟩ : ByteArray)) ++ B x) ++ (⟨#[46, 40]⟩ : ByteArray)) ++ B a) ++ (⟨#[33]⟩ : ByteArray)) ++ B v) ++ (⟨#[46, 48, 38]⟩ : ByteArray)) ++ B p) ++ (⟨#[41]⟩ : ByteArray)) = B (wrL a v p x) := by
  rw [show (⟨#[63]⟩ : ByteArray) = B [63] from rfl, show (⟨#[46, 40]⟩ : ByteArray) = B [46, 40] from rfl, show (⟨#[33]⟩ : ByteArray) = B [33] from rfl, show (⟨#[46, 48, 38]⟩ : ByteArray) = B [46, 48, 38] from rfl, show (⟨#[41]⟩ : ByteArray) = B [41] from rfl]
  simp only [B_append]
  rfl

set_option maxHeartbeats 2000000 in
theorem WriteCell_calls (a v p : List UInt8) (w : World) (ha : a.length ≤ 140737488351232) (hx : v.length ≤ 140737488351232) (hp : p.length ≤ 140737488351232) :
    Calls Try.prog 33 #[.string (B a), .string (B v), .string (B p)] w fun e w' => e = .returned (.tuple #[.string (val a v p).1, .bool (val a v p).2]) ∧ Below w.heap.size w w' := by
  have n1 := isName_calls a w ha
  have n2 := isName_calls v w hx
  have np := isProcess_calls p w hp
  rcases h1 : oneB a with _ | _
  · rw [h1] at n1
    have hv : Hid (val a v p = (B [], false)) := by simp [Hid, val, h1]
    clear h1
    go_enter Try.func33, Try.ntmps33
    go_wp2_with fail
    refine n1.mono ?_
    rintro e w' ⟨rfl, rfl⟩
    go_wp2_with fail
    go_ret2
    exact ⟨by rw [hv.out]; rfl, Below.refl _ _⟩
  rw [h1] at n1
  rcases h2 : oneB v with _ | _
  · rw [h2] at n2
    have hv : Hid (val a v p = (B [], false)) := by simp [Hid, val, h2]
    clear h1 h2
    go_enter Try.func33, Try.ntmps33
    go_wp2_with fail
    refine n1.mono ?_
    rintro e w' ⟨rfl, rfl⟩
    go_wp2_with fail
    refine n2.mono ?_
    rintro e w' ⟨rfl, rfl⟩
    go_wp2_with fail
    go_ret2
    exact ⟨by rw [hv.out]; rfl, Below.refl _ _⟩
  rw [h2] at n2
  rcases h3 : readOk p with _ | _
  · rw [h3] at np
    have hv : Hid (val a v p = (B [], false)) := by simp [Hid, val, h3]
    clear h1 h2 h3
    go_enter Try.func33, Try.ntmps33
    go_wp2_with fail
    refine n1.mono ?_
    rintro e w' ⟨rfl, rfl⟩
    go_wp2_with fail
    refine n2.mono ?_
    rintro e w' ⟨rfl, rfl⟩
    go_wp2_with fail
    refine np.mono ?_
    rintro e w' ⟨rfl, hb⟩
    go_wp2_with fail
    go_ret2
    exact ⟨by rw [hv.out]; rfl, hb⟩
  rw [h3] at np
  have hv : Hid (val a v p = toldS (freshOf (inS (tkn a v p).flatten)).isNone (wrL a v p [freshC (inS (tkn a v p).flatten)])) := by simp only [Hid, val, h1, h2, h3]; simp
  obtain ⟨c, rfl, hc⟩ := oneB_iff.mp h1
  obtain ⟨d, rfl, hd⟩ := oneB_iff.mp h2
  have HLET : Hid (∀ x, x ∈ (tkn [c] [d] p).flatten → isLet x = true) := by
    intro x hx
    simp only [tkn, List.flatten_cons, List.flatten_nil, List.append_nil, List.mem_append, List.mem_singleton] at hx
    rcases hx with rfl | rfl | hx
    · exact hc
    · exact hd
    · exact (sort_mem.mp hx).1
  have HFL : Hid ((tkn [c] [d] p).flatten.length ≤ 1000000) := by
    have := sort_len (parsed p).1.fr
    simp only [Hid, tkn, List.flatten_cons, List.flatten_nil, List.append_nil, List.length_append, List.length_singleton]
    omega
  have HR := Lib.hid h3
  have HFR : Hid (sortL (frT [p]) = sortL (parsed p).1.fr) := by simp only [Hid, frT, List.foldl_cons, List.foldl_nil, orS_no]
  have z1 : (B [c]).size = 1 := B_size _
  have z2 : (B [d]).size = 1 := B_size _
  have z4 : (B p).size = p.length := B_size _
  have HPL : Hid (p.length ≤ 300) := (read_good h3).1
  clear h1 h2 hc hd ha hx h3 hp
  go_enter Try.func33, Try.ntmps33
  go_wp2_with fail
  refine n1.mono ?_
  rintro e w' ⟨rfl, rfl⟩
  go_wp2_with fail
  refine n2.mono ?_
  rintro e w' ⟨rfl, rfl⟩
  go_wp2_with fail
  refine np.mono ?_
  rintro e w1 ⟨rfl, hb⟩
  have HC : Hid (∀ o, Cod w ((w1.alloc (.cells #[.bool false] 69)).alloc o) w1.heap.size false) := fun o => (cod_new hb false _).alloc o
  have HT : Hid (∀ e, Texts ((w1.alloc (.cells #[.bool false] 69)).alloc (.cells #[.string (B p)] e)) (w1.heap.size + 1) [p]) := fun e => by
    have := texts_new (w1.alloc (.cells #[.bool false] 69)) [p] e
    simpa using this
  clear hb n1 n2 np
  go_wp2_with fail
  refine (namesOf_calls _ 1 [p] _ (HT.out _) (by simp) (fun x hx => by rw [List.mem_singleton.mp hx]; exact HR.out)).mono ?_
  rintro e w2 ⟨rfl, hb2⟩
  rw [HFR.out]
  replace HC := Lib.hid ((HC.out _).keep hb2)
  clear HT hb2
  have HT2 : Hid (∀ e, Texts (w2.alloc (.cells #[.string (B [c]), .string (B [d]), .string (B (sortL (parsed p).1.fr))] e)) w2.heap.size (tkn [c] [d] p)) := fun e => texts_new w2 (tkn [c] [d] p) e
  go_wp2_with fail
  refine (coderFresh_calls (HC.out.alloc _) _ 3 (tkn [c] [d] p) (HT2.out _) (by simp [tkn]) (by simp [tkn]) HFL.out HLET.out).mono ?_
  rintro e w3 ⟨rfl, hc3⟩
  rw [Bool.false_or] at hc3
  clear HC HT2 HLET HFL HFR
  generalize (freshOf (inS (tkn [c] [d] p).flatten)).isNone = bad at hc3 hv
  generalize freshC (inS (tkn [c] [d] p).flatten) = x at hv ⊢
  have HE := Lib.hid (wr_bytes [c] [d] p [x])
  have z3 : (B [x]).size = 1 := B_size _
  have HC3 := Lib.hid hc3
  have hpl := HPL.out
  clear hc3
  go_wp2_with fail
  rw [HE.out]
  obtain ⟨e, hg⟩ := HC3.out.cell
  refine (coderTold_calls w1.heap.size bad (wrL [c] [d] p [x]) _ (blk_cell hg 0) (by simp [wrL]; omega)).mono ?_
  rintro e w4 ⟨rfl, hb4⟩
  have hb5 := below_then HC3.out.below HC3.out.below.size hb4
  clear hb4 hg
  go_wp2_with fail
  go_ret2
  exact ⟨by rw [hv.out]; rfl, hb5⟩

theorem spec_val (a v p : List UInt8) : spec_WriteCell.f 4000 (B a) (B v) (B p) = some ((val a v p).1, (val a v p).2) := by
  unfold spec_WriteCell.f
  rw [one_f, one_f, good_f p 4000 (by omega)]
  simp only [Option.bind_some]
  rcases h1 : oneB a with _ | _
  · rw [spec_WriteCell.j0]; simp [val, h1]; rfl
  rcases h2 : oneB v with _ | _
  · rw [spec_WriteCell.j0]; simp [val, h1, h2]; rfl
  rcases h3 : readOk p with _ | _
  · rw [spec_WriteCell.j0]; simp [val, h1, h2, h3]; rfl
  have hv : val a v p = toldS (freshOf (inS (tkn a v p).flatten)).isNone (wrL a v p [freshC (inS (tkn a v p).flatten)]) := by simp only [val, h1, h2, h3]; simp
  obtain ⟨c, rfl, _⟩ := oneB_iff.mp h1
  obtain ⟨d, rfl, _⟩ := oneB_iff.mp h2
  obtain ⟨g1, g2, g3, g4⟩ := read_good h3
  have hfr := frees_text (parsed p).1 3999 g3 (by rw [← g2]; omega) (by omega)
  rw [← g2] at hfr
  have hsl := sort_len (parsed p).1.fr
  have hbs : (B [c] ++ B [d]) ++ B (sortL (parsed p).1.fr) = B (tkn [c] [d] p).flatten := by simp [B_append, tkn]
  have hfl : (tkn [c] [d] p).flatten.length ≤ 100 := by
    simp only [tkn, List.flatten_cons, List.flatten_nil, List.append_nil, List.length_append, List.length_singleton]; omega
  have hf : spec_tmFresh.f 3999 ((B [c] ++ B [d]) ++ B (sortL (parsed p).1.fr)) = some (vl (freshB (inS (tkn [c] [d] p).flatten))) := by
    rw [hbs]; exact tmFresh_f _ 3999 (by omega) (by omega)
  have hcd : spec_cdText.f (vl (freshB (inS (tkn [c] [d] p).flatten))) = some (B [freshB (inS (tkn [c] [d] p).flatten)]) := by
    simp [spec_cdText.f, strOfNums, B, vl]
  rw [hv, if_pos rfl, if_pos rfl, spec_WriteCell.j0, hfr]
  simp only [Option.bind_some]
  rw [hf]
  simp only [Option.bind_some, hcd, wr_bytes]
  generalize hx : freshB (inS (tkn [c] [d] p).flatten) = x
  have s63 : (⟨#[63]⟩ : ByteArray).size = 1 := rfl
  have s33 : (⟨#[33]⟩ : ByteArray).size = 1 := rfl
  have s46 : (⟨#[46, 40]⟩ : ByteArray).size = 2 := rfl
  have s48 : (⟨#[46, 48, 38]⟩ : ByteArray).size = 3 := rfl
  simp only [ByteArray.size_append, B_size, List.length_cons, List.length_nil, s63, s33, s46, s48]
  rw [if_neg (by decide), if_pos (by omega)]
  repeat rw [if_pos (by omega)]
  rw [if_f _ 3999 (by omega)]
  cases hf : freshOf (inS (tkn [c] [d] p).flatten) with
  | some y =>
    rw [freshB_some hf] at hx
    subst hx
    simp only [toldS, freshC, hf, Option.getD_some, Option.isNone_some, true_and, Option.bind_some]
    try (split <;> rfl)
  | none =>
    have hh := freshB_none hf
    rw [hx] at hh
    rw [not_read (l := wrL [c] [d] p [x]) (c := x) (by simp [wrL]) hh]
    try simp [toldS]
    try rfl

set_option maxHeartbeats 1000000 in
theorem law_walk (s t u : ByteArray) (w : World) (hs : s.size ≤ 140737488351232) (ht : t.size ≤ 140737488351232) (hu : u.size ≤ 140737488351232) :
    Calls Try.prog 10 #[.string s, .string t, .string u] w fun e w' => e = .returned (.bool true) ∧ Below w.heap.size w w' := by
  obtain ⟨a, rfl⟩ := B_of s
  obtain ⟨x, rfl⟩ := B_of t
  obtain ⟨p, rfl⟩ := B_of u
  have hz : (B a).size = a.length := B_size a
  have hz2 : (B x).size = x.length := B_size x
  have hz3 : (B p).size = p.length := B_size p
  rw [hz] at hs
  rw [hz2] at ht
  rw [hz3] at hu
  by_cases hbig : a.length > 1048576
  · go_enter Try.func10, Try.ntmps10
    go_wp2_with fail
    go_ret
    exact ⟨rfl, Below.refl _ _⟩
  by_cases hbig2 : x.length > 1048576
  · go_enter Try.func10, Try.ntmps10
    go_wp2_with fail
    go_ret
    exact ⟨rfl, Below.refl _ _⟩
  by_cases hbig3 : p.length > 1048576
  · go_enter Try.func10, Try.ntmps10
    go_wp2_with fail
    go_ret
    exact ⟨rfl, Below.refl _ _⟩
  · have HF := Lib.hid (spec_val a x p)
    go_enter Try.func10, Try.ntmps10
    go_wp2_with fail
    refine (spec_WriteCell.calls 4000 (B a) (B x) (B p) _ _ _ HF.out).mono ?_
    rintro e w1 ⟨rfl, hb1⟩
    go_wp2_with fail
    refine (WriteCell_calls a x p _ hs ht hu).mono ?_
    rintro e w2 ⟨rfl, hb⟩
    replace hb := below_then hb1 hb1.size hb
    clear hb1
    go_wp2_with fail
    go_ret
    exact ⟨rfl, hb⟩

end Go.Proofs.Ytfcadppidgkoaaa.PFnExactWriteCell
