/- The law FnExactChoiceOf, walked: the program's answer is the reference's. -/
import Derived.Test.YtfcadppidgkoaaaIfChoiceOf
import Derived.Test.YtfcadppidgkoaaaFreshChoiceOf
import Derived.Test.YtfcadppidgkoaaaFreeSChoiceOf
import Derived.Test.YtfcadppidgkoaaaHighChoiceOf
import Derived.Test.YtfcadppidgkoaaaCods
namespace Go.Proofs.Ytfcadppidgkoaaa.PFnExactChoiceOf
open Go.RowKit Go.Proofs.YtfcadppidgkoaaaW.PrintWords Go.Proofs.YtfcadppidgkoaaaW.PrintLast Go.Proofs.YtfcadppidgkoaaaW.PrintMore Go.Proofs.Ytfcadppidgkoaaa.Pterm Go.Proofs.Ytfcadppidgkoaaa.PChoiceOf
set_option linter.unusedVariables false
set_option linter.unusedSimpArgs false

def chL (p q s z : List UInt8) : List UInt8 := ((((((((((((((((([35] ++ s) ++ [46, 40]) ++ s) ++ [33]) ++ s) ++ [46, 48, 38, 40]) ++ s) ++ [63]) ++ z) ++ [46]) ++ p) ++ [38]) ++ s) ++ [63]) ++ z) ++ [46]) ++ q) ++ [41, 41]
/-- The names that are taken. -/
def tk1 (p q : List UInt8) : List UInt8 := sortL (frT [p, q])
def s1 (p q : List UInt8) : UInt8 := freshC (inS [tk1 p q].flatten)
def b1 (p q : List UInt8) : Bool := (freshOf (inS [tk1 p q].flatten)).isNone
def z1 (p q : List UInt8) : UInt8 := freshC (inS [tk1 p q, [s1 p q]].flatten)
def b2 (p q : List UInt8) : Bool := (freshOf (inS [tk1 p q, [s1 p q]].flatten)).isNone
/-- What both say. -/
def val (p q : List UInt8) : ByteArray × Bool := if readOk p = true ∧ readOk q = true then toldS (b1 p q || b2 p q) (chL p q [s1 p q] [z1 p q]) else (B [], false)
theorem ch_bytes (p q s z : List UInt8) : (((((((((((((((((((⟨#[35]⟩ : ByteArray) ++ B s) ++ (⟨#[46, 40]⟩ : ByteArray)) ++ B s) ++ (⟨#[33]⟩ : ByteArray)) ++ B s) ++ (⟨#[46, 48, 38, 40]⟩ : ByteArray)) ++ B s) ++ (⟨#[63]⟩ : ByteArray)) ++ B z) ++ (⟨#[46]⟩ : ByteArray)) ++ B p) ++ (⟨#[38]⟩ : ByteArray)) ++ B s) ++ (⟨#[63]⟩ : ByteArray)) ++ B z) ++ (⟨#[46]⟩ : ByteArray)) ++ B q) ++ (⟨#[41, 41]⟩ : ByteArray)) = B (chL p q s z) := by
  rw [show (⟨#[63]⟩ : ByteArray) = B [63] from rfl, show (⟨#[46, 40]⟩ : ByteArray) = B [46, 40] from rfl, show (⟨#[33]⟩ : ByteArray) = B [33] from rfl, show (⟨#[46, 48, 38, 40]⟩ : ByteArray) = B [46, 48, 38, 40] from rfl, show (⟨#[41, 41]⟩ : ByteArray) = B [41, 41] from rfl, show (⟨#[35]⟩ : ByteArray) = B [35] from rfl, show (⟨#[38]⟩ : ByteArray) = B [38] from rfl, show (⟨#[46]⟩ : ByteArray) = B [46] from rfl]
  simp only [B_append]
  rfl

set_option maxHeartbeats 2000000 in
theorem ChoiceOf_calls (p q : List UInt8) (w : World) (hp : p.length ≤ 140737488351232) (hq : q.length ≤ 140737488351232) :
    Calls Try.prog 35 #[.string (B p), .string (B q)] w fun e w' => e = .returned (.tuple #[.string (val p q).1, .bool (val p q).2]) ∧ Below w.heap.size w w' := by
  have np := isProcess_calls p w hp
  rcases h1 : readOk p with _ | _
  · rw [h1] at np
    have hv : Hid (val p q = (B [], false)) := by simp [Hid, val, h1]
    clear h1
    go_enter Try.func35, Try.ntmps35
    go_wp2_with fail
    refine np.mono ?_
    rintro e w' ⟨rfl, hb⟩
    go_wp2_with fail
    go_ret2
    exact ⟨by rw [hv.out]; rfl, hb⟩
  rw [h1] at np
  have nq := fun W => isProcess_calls q W hq
  rcases h2 : readOk q with _ | _
  · rw [h2] at nq
    have hv : Hid (val p q = (B [], false)) := by simp [Hid, val, h2]
    clear h1 h2
    go_enter Try.func35, Try.ntmps35
    go_wp2_with fail
    refine np.mono ?_
    rintro e w1 ⟨rfl, hb⟩
    go_wp2_with fail
    refine (nq _).mono ?_
    rintro e w2 ⟨rfl, hb2⟩
    replace hb := below_then hb hb.size hb2
    clear hb2
    go_wp2_with fail
    go_ret2
    exact ⟨by rw [hv.out]; rfl, hb⟩
  rw [h2] at nq
  have hv : Hid (val p q = toldS (b1 p q || b2 p q) (chL p q [s1 p q] [z1 p q])) := by simp only [Hid, val, h1, h2]; simp
  have HLET : Hid (∀ x, x ∈ [tk1 p q].flatten → isLet x = true) := by
    intro x hx
    simp only [tk1, List.flatten_cons, List.flatten_nil, List.append_nil] at hx
    exact (sort_mem.mp hx).1
  have HLET2 : Hid (∀ x, x ∈ [tk1 p q, [s1 p q]].flatten → isLet x = true) := by
    intro x hx
    simp only [tk1, List.flatten_cons, List.flatten_nil, List.append_nil, List.mem_append, List.mem_singleton] at hx
    rcases hx with hx | rfl
    · exact (sort_mem.mp hx).1
    · exact freshC_let _
  have hsl := sort_len (frT [p, q])
  have HFL : Hid ([tk1 p q].flatten.length ≤ 1000000) := by
    simp only [Hid, tk1, List.flatten_cons, List.flatten_nil, List.append_nil]; omega
  have HFL2 : Hid ([tk1 p q, [s1 p q]].flatten.length ≤ 1000000) := by
    simp only [Hid, tk1, List.flatten_cons, List.flatten_nil, List.append_nil, List.length_append, List.length_singleton]; omega
  have HR : Hid (∀ x, x ∈ [p, q] → readOk x = true) := by
    intro x hx
    simp at hx
    rcases hx with rfl | rfl <;> assumption
  have z4 : (B p).size = p.length := B_size _
  have z5 : (B q).size = q.length := B_size _
  have HPL : Hid (p.length ≤ 300) := (read_good h1).1
  have HQL : Hid (q.length ≤ 300) := (read_good h2).1
  clear h1 h2 hp hq hsl
  go_enter Try.func35, Try.ntmps35
  go_wp2_with fail
  refine np.mono ?_
  rintro e w0 ⟨rfl, hb0⟩
  go_wp2_with fail
  refine (nq _).mono ?_
  rintro e w1 ⟨rfl, hb⟩
  replace hb := below_then hb0 hb0.size hb
  have HC : Hid (∀ o, Cod w ((w1.alloc (.cells #[.bool false] 69)).alloc o) w1.heap.size false) := fun o => (cod_new hb false _).alloc o
  have HT : Hid (∀ e, Texts ((w1.alloc (.cells #[.bool false] 69)).alloc (.cells #[.string (B p), .string (B q)] e)) (w1.heap.size + 1) [p, q]) := fun e => by
    have := texts_new (w1.alloc (.cells #[.bool false] 69)) [p, q] e
    simpa using this
  clear hb hb0 np nq
  go_wp2_with fail
  refine (namesOf_calls _ 2 [p, q] _ (HT.out _) (by simp) HR.out).mono ?_
  rintro e w2 ⟨rfl, hb2⟩
  rw [show sortL (frT [p, q]) = tk1 p q from rfl]
  replace HC := Lib.hid ((HC.out _).keep hb2)
  clear HT hb2
  have HT2 : Hid (∀ e, Texts (w2.alloc (.cells #[.string (B (tk1 p q))] e)) w2.heap.size [tk1 p q]) := fun e => texts_new w2 [tk1 p q] e
  go_wp2_with fail
  refine (coderFresh_calls (HC.out.alloc _) _ 1 [tk1 p q] (HT2.out _) (by simp) (by simp) HFL.out HLET.out).mono ?_
  rintro e w3 ⟨rfl, hc3⟩
  rw [Bool.false_or, show freshC (inS [tk1 p q].flatten) = s1 p q from rfl] at *
  clear HC HT2 HLET HFL
  have HT3 : Hid (∀ e, Texts (w3.alloc (.cells #[.string (B (tk1 p q)), .string (B [s1 p q])] e)) w3.heap.size [tk1 p q, [s1 p q]]) := fun e => texts_new w3 [tk1 p q, [s1 p q]] e
  have HC3 := Lib.hid hc3
  clear hc3
  go_wp2_with fail
  refine (coderFresh_calls (HC3.out.alloc _) _ 2 [tk1 p q, [s1 p q]] (HT3.out _) (by simp) (by simp) HFL2.out HLET2.out).mono ?_
  rintro e w4 ⟨rfl, hc4⟩
  have HC4 : Hid (Cod w w4 w1.heap.size (b1 p q || b2 p q)) := hc4
  rw [show freshC (inS [tk1 p q, [s1 p q]].flatten) = z1 p q from rfl]
  clear HC3 HT3 HLET2 HFL2 hc4 HR
  generalize (b1 p q || b2 p q) = bad at HC4 hv
  generalize z1 p q = z at hv ⊢
  generalize s1 p q = s at hv ⊢
  have HE := Lib.hid (ch_bytes p q [s] [z])
  have y1 : (B [s]).size = 1 := B_size _
  have y2 : (B [z]).size = 1 := B_size _
  have hpl := HPL.out
  have hql := HQL.out
  go_wp2_with fail
  rw [HE.out]
  obtain ⟨e, hg⟩ := HC4.out.cell
  refine (coderTold_calls w1.heap.size bad (chL p q [s] [z]) _ (blk_cell hg 0) (by simp [chL]; omega)).mono ?_
  rintro e w5 ⟨rfl, hb4⟩
  have hb5 := below_then HC4.out.below HC4.out.below.size hb4
  clear hb4 hg
  go_wp2_with fail
  go_ret2
  exact ⟨by rw [hv.out]; rfl, hb5⟩

theorem spec_val (p q : List UInt8) : spec_ChoiceOf.f 4000 (B p) (B q) = some ((val p q).1, (val p q).2) := by
  unfold spec_ChoiceOf.f
  rw [good_f p 4000 (by omega), good_f q 4000 (by omega)]
  simp only [Option.bind_some]
  rcases h1 : readOk p with _ | _
  · rw [spec_ChoiceOf.j0]; simp [val, h1]; rfl
  rcases h2 : readOk q with _ | _
  · rw [spec_ChoiceOf.j0]; simp [val, h1, h2]; rfl
  have hv : val p q = toldS (b1 p q || b2 p q) (chL p q [s1 p q] [z1 p q]) := by simp only [val, h1, h2]; simp
  obtain ⟨g1, g2, g3, g4⟩ := read_good h1
  obtain ⟨k1, k2, k3, k4⟩ := read_good h2
  have hfr := frees_text (parsed p).1 3999 g3 (by rw [← g2]; omega) (by omega)
  rw [← g2] at hfr
  have hfr2 := frees_text (parsed q).1 3999 k3 (by rw [← k2]; omega) (by omega)
  rw [← k2] at hfr2
  have hsl := sort_len (parsed p).1.fr
  have hsl2 := sort_len (parsed q).1.fr
  obtain ⟨T, hT⟩ : ∃ T, T = sortL (parsed p).1.fr ++ sortL (parsed q).1.fr := ⟨_, rfl⟩
  have hTl : T.length ≤ 100 := by rw [hT, List.length_append]; omega
  have hTm : ∀ c, isLet c = true → inS T c = inS [tk1 p q].flatten c := fun c hc => by
    simp only [hT, tk1, inS, List.flatten_cons, List.flatten_nil, List.append_nil]
    rw [Bool.eq_iff_iff, List.contains_iff_mem, List.contains_iff_mem, List.mem_append, sort_mem, sort_mem, sort_mem]
    simp only [hc, true_and, frT, List.foldl_cons, List.foldl_nil, orS_no]
    unfold orS
    simp
  have hbs : B (sortL (parsed p).1.fr) ++ B (sortL (parsed q).1.fr) = B T := by rw [B_append, hT]
  have hf : spec_tmFresh.f 3999 (B T) = some (vl (freshB (inS T))) := tmFresh_f _ 3999 (by omega) (by omega)
  have hcd : ∀ c, spec_cdText.f (vl c) = some (B [c]) := fun c => by simp [spec_cdText.f, strOfNums, B, vl]
  have hbs2 : B T ++ B [freshB (inS T)] = B (T ++ [freshB (inS T)]) := B_append _ _
  have hf2 : spec_tmFresh.f 3999 (B (T ++ [freshB (inS T)])) = some (vl (freshB (inS (T ++ [freshB (inS T)])))) := tmFresh_f _ 3999 (by simp; omega) (by simp; omega)
  rw [hv, if_pos rfl, spec_ChoiceOf.j0, hfr]
  simp only [Option.bind_some]
  rw [hfr2]
  simp only [Option.bind_some, hbs]
  rw [hf]
  simp only [Option.bind_some, hcd, hbs2]
  rw [hf2]
  simp only [Option.bind_some, hcd, ch_bytes]
  have e1 : freshOf (inS T) = freshOf (inS [tk1 p q].flatten) := freshOf_congr hTm
  generalize hz : freshB (inS (T ++ [freshB (inS T)])) = z
  generalize hs : freshB (inS T) = s
  have s63 : (⟨#[63]⟩ : ByteArray).size = 1 := rfl
  have s33 : (⟨#[33]⟩ : ByteArray).size = 1 := rfl
  have s46 : (⟨#[46]⟩ : ByteArray).size = 1 := rfl
  have s38 : (⟨#[38]⟩ : ByteArray).size = 1 := rfl
  have s35 : (⟨#[35]⟩ : ByteArray).size = 1 := rfl
  have s460 : (⟨#[46, 40]⟩ : ByteArray).size = 2 := rfl
  have s48 : (⟨#[46, 48, 38, 40]⟩ : ByteArray).size = 4 := rfl
  simp only [ByteArray.size_append, B_size, List.length_cons, List.length_nil, s63, s33, s46, s48, s38, s35, s460]
  rw [if_neg (by decide), if_pos (by omega)]
  repeat rw [if_pos (by omega)]
  rw [if_f _ 3999 (by omega)]
  cases hf : freshOf (inS T) with
  | some y =>
    have hy : s = y := by rw [← hs]; exact freshB_some hf
    have hs1 : s1 p q = y := by unfold s1 freshC; rw [← e1, hf]; rfl
    have hb1 : b1 p q = false := by unfold b1; rw [← e1, hf]; rfl
    have e2 : freshOf (inS (T ++ [s])) = freshOf (inS [tk1 p q, [s1 p q]].flatten) := freshOf_congr fun c hc => by
      have := hTm c hc
      rw [hs1, hy]
      simp only [inS, List.flatten_cons, List.flatten_nil, List.append_nil, List.contains_append] at this ⊢
      rw [this]
    rw [hs] at hz
    subst hy
    rw [hs1, hb1, Bool.false_or]
    cases hf2 : freshOf (inS (T ++ [s])) with
    | some x =>
      have hx : z = x := by rw [← hz]; exact freshB_some hf2
      have hz1 : z1 p q = x := by unfold z1 freshC; rw [← e2, hf2]; rfl
      have hb2 : b2 p q = false := by unfold b2; rw [← e2, hf2]; rfl
      subst hx
      rw [hz1, hb2]
      simp only [toldS, true_and, Option.bind_some]
      try (split <;> rfl)
    | none =>
      have hb2 : b2 p q = true := by unfold b2; rw [← e2, hf2]; rfl
      have hh := freshB_none hf2
      rw [hz] at hh
      rw [hb2, not_read (l := chL p q [s] [z]) (c := z) (by simp [chL]) hh]
      try simp [toldS]
      try rfl
  | none =>
    have hb1 : b1 p q = true := by unfold b1; rw [← e1, hf]; rfl
    have hh := freshB_none hf
    rw [hs] at hh
    rw [hb1, Bool.true_or, not_read (l := chL p q [s] [z]) (c := s) (by simp [chL]) hh]
    try simp [toldS]
    try rfl

set_option maxHeartbeats 1000000 in
theorem law_walk (s t : ByteArray) (w : World) (hs : s.size ≤ 140737488351232) (ht : t.size ≤ 140737488351232) :
    Calls Try.prog 11 #[.string s, .string t] w fun e w' => e = .returned (.bool true) ∧ Below w.heap.size w w' := by
  obtain ⟨l, rfl⟩ := B_of s
  obtain ⟨m, rfl⟩ := B_of t
  have hz : (B l).size = l.length := B_size l
  have hz2 : (B m).size = m.length := B_size m
  rw [hz] at hs
  rw [hz2] at ht
  by_cases hbig : l.length > 1048576
  · go_enter Try.func11, Try.ntmps11
    go_wp2_with fail
    go_ret
    exact ⟨rfl, Below.refl _ _⟩
  by_cases hbig2 : m.length > 1048576
  · go_enter Try.func11, Try.ntmps11
    go_wp2_with fail
    go_ret
    exact ⟨rfl, Below.refl _ _⟩
  · have HF := Lib.hid (spec_val l m)
    go_enter Try.func11, Try.ntmps11
    go_wp2_with fail
    refine (spec_ChoiceOf.calls 4000 (B l) (B m) _ _ _ HF.out).mono ?_
    rintro e w1 ⟨rfl, hb1⟩
    go_wp2_with fail
    refine (ChoiceOf_calls l m _ hs ht).mono ?_
    rintro e w2 ⟨rfl, hb⟩
    replace hb := below_then hb1 hb1.size hb
    clear hb1
    go_wp2_with fail
    go_ret
    exact ⟨rfl, hb⟩

end Go.Proofs.Ytfcadppidgkoaaa.PFnExactChoiceOf
