/- The law FnExactCountKind, walked: the program's answer is the reference's. -/
import Derived.Test.YtfcadppidgkoaaaCountCountKind
import Derived.Test.YtfcadppidgkoaaaInCountKind
import Derived.Test.YtfcadppidgkoaaaReads
import Derived.Test.YtfcadppidgkoaaaIsKind
import Derived.Test.YtfcadppidgkoaaaCountC
namespace Go.Proofs.Ytfcadppidgkoaaa.PFnExactCountKind
open Go.RowKit Go.Proofs.YtfcadppidgkoaaaW.PrintWords Go.Proofs.YtfcadppidgkoaaaW.PrintLast Go.Proofs.YtfcadppidgkoaaaW.PrintMore Go.Proofs.Ytfcadppidgkoaaa.Pterm Go.Proofs.Ytfcadppidgkoaaa.PCountKind
set_option linter.unusedVariables false
set_option linter.unusedSimpArgs false

/-- What both say. -/
def okB (l m : List UInt8) : Bool := readOk l && kindB m
def val (l m : List UInt8) : Int := if okB l m = true then (cnt (m.headD 0) (parsed l).1 : Nat) else 0

set_option maxHeartbeats 1000000 in
theorem CountKind_calls (l m : List UInt8) (w : World) (hl : l.length ≤ 140737488351232) (hm : m.length ≤ 140737488351232) :
    Calls Try.prog 23 #[.string (B l), .string (B m)] w fun e w' => e = .returned (.tuple #[.int .i64 (val l m), .bool (okB l m)]) ∧ Below w.heap.size w w' := by
  have HM : Hid (m.length ≤ 140737488351232) := hm
  go_enter Try.func23, Try.ntmps23
  go_wp2_with fail
  obtain ⟨w0, hW0⟩ : ∃ w0, w0 = w.alloc (.cells #[.string (B m)] 9) := ⟨_, rfl⟩
  rw [← hW0]
  have hb0 : Below w.heap.size w w0 := by rw [hW0]; exact (Below.refl _ _).alloc (Nat.le_refl _) _
  have hbox := (congrArg (fun x : World => x.heap[w.heap.size]?) hW0).trans (heap_alloc_new w _)
  have hgt : w.heap.size < w0.heap.size := by rw [hW0]; simp
  clear hW0
  refine (read_calls l w0 hl).mono ?_
  rintro e w1 ⟨hb, p, rfl, hp⟩
  have hbox1 := (hb.block _ hgt).trans hbox
  replace hb := below_then hb0 hb0.size hb
  clear hbox
  rcases hok : readOk l with _ | _
  · have hv : Hid (val l m = 0) := by simp [Hid, val, okB, hok]
    have HO : Hid (okB l m = false) := by simp [Hid, okB, hok]
    clear hok hp
    go_wp2_with fail
    go_ret2
    exact ⟨by rw [hv.out, HO.out]; rfl, hb⟩
  obtain ⟨b, rfl, hli⟩ := hp hok
  have hkc := isKind_calls m w1 HM.out
  have ck := blk_cell hbox1 0
  rcases hkk : kindB m with _ | _
  · have hv : Hid (val l m = 0) := by simp [Hid, val, okB, hkk]
    have HO : Hid (okB l m = false) := by simp [Hid, okB, hkk]
    rw [hkk] at hkc
    clear hok hp hkk
    go_wp2_with fail
    refine hkc.mono ?_
    rintro e w' ⟨rfl, rfl⟩
    go_wp2_with fail
    go_ret2
    exact ⟨by rw [hv.out, HO.out]; rfl, hb⟩
  · have hv : Hid (val l m = (cnt (m.headD 0) (parsed l).1 : Nat)) := by simp [Hid, val, okB, hkk, hok]
    have HO : Hid (okB l m = true) := by simp [Hid, okB, hkk, hok]
    obtain ⟨c, rfl⟩ : ∃ c, m = [c] := by
      by_cases h : m.length = 1
      · exact List.length_eq_one_iff.mp h
      · rw [kindB_len h] at hkk; cases hkk
    have hsz := (read_good hok).2.2.2
    have HS := Lib.hid hsz
    have HC := Lib.hid (cnt_pre c (parsed l).1)
    rw [hkk] at hkc
    have HL := Lib.hid hli
    have HB := Lib.hid hb
    have HX := Lib.hid hbox1
    have HT : Hid (∀ e1 W, W = w1.alloc (.cells #[.int .i64 0] e1) → CT w1 W w1.heap.size w.heap.size c (wrap64 (cntL c []))) := fun e1 W hW => by
      have hlt := blk_lt hbox1
      subst hW
      exact ⟨(Below.refl _ _).alloc (Nat.le_refl _) _, ⟨e1, by rw [show wrap64 (cntL c [] : Nat) = 0 from by simp [cntL, wrap64]]; exact heap_alloc_new w1 _⟩, ⟨_, by rw [Below.heap_alloc _ _ _ hlt]; exact hbox1⟩, Nat.le_refl _, by omega⟩
    clear hok hp hkk hli hb hbox1 hb0 hgt HM hm
    go_wp2_with fail
    refine hkc.mono ?_
    rintro e w' ⟨rfl, rfl⟩
    go_wp2_with fail
    refine (ECount.each_any (does w1 w1.heap.size w.heap.size c) 61 (parsed l).1 [] _ _ b (by have := HS.out; omega) (by omega) (fun _ _ => trivial) HL.out (HT.out _ _ rfl)).mono ?_
    rintro e w3 ⟨rfl, ht⟩
    rw [List.nil_append] at ht
    have hb3 := below_then HB.out HB.out.size ht.below
    obtain ⟨eg, hg⟩ := ht.num
    have ch := blk_cell hg 0
    have hcv : wrap64 (cntL c (pre (parsed l).1) : Nat) = (cnt c (parsed l).1 : Nat) := by
      have h1 := HC.out
      have h2 := HS.out
      have h3 := cnt_le c (parsed l).1
      unfold cntL
      rw [← h1, wrap_id (by omega) (by omega)]
    have ch2 : w3.cell? ⟨w1.heap.size, 0, none⟩ = some (.int .i64 (cnt c (parsed l).1 : Nat)) := by rw [← hcv]; exact ch
    clear ht hg HT HB ch hcv
    go_wp2_with fail
    go_ret2
    exact ⟨by rw [hv.out, HO.out]; rfl, hb3⟩

theorem kind_at (m : List UInt8) (h : m.length = 1) : bt (B m) 0 = vl (m.headD 0) := by
  obtain ⟨c, rfl⟩ := List.length_eq_one_iff.mp h
  rfl
theorem spec_val (l m : List UInt8) : spec_CountKind.f 3000 (B l) (B m) = some (val l m, okB l m) := by
  unfold spec_CountKind.f val okB
  rw [good_f l 3000 (by omega), Option.bind_some]
  rcases hok : readOk l with _ | _
  · rfl
  · obtain ⟨h1, h2, h3, h4⟩ := read_good hok
    rw [if_pos rfl, B_size]
    by_cases hm : m.length = 1
    · obtain ⟨c, rfl⟩ := List.length_eq_one_iff.mp hm
      have e := count_text c (parsed l).1 3000 (Wf.names (fun c => let_name) h3) (by rw [← h2]; omega) (by omega)
      rw [← h2] at e
      have e2 := tmIn_f kindsL (by decide) c 3000 (by decide)
      rw [if_pos (by simp), if_pos (by simp), kind_at _ hm]
      have e3 : spec_tmIn.f 3000 (⟨#[48, 33, 63, 126, 43, 38, 35, 61, 42]⟩ : ByteArray) (vl c) = some (kindsL.contains c) := e2
      simp only [List.headD_cons]
      rw [e3, Option.bind_some]
      rcases hk : kindsL.contains c with _ | _
      · have hkb : kindB [c] = false := hk
        rw [if_neg (by decide), hkb]; rfl
      · have hkb : kindB [c] = true := hk
        rw [if_pos rfl, e, hkb]; rfl
    · rw [if_neg (by omega), kindB_len hm]; rfl

set_option maxHeartbeats 1000000 in
theorem law_walk (s t : ByteArray) (w : World) (hs : s.size ≤ 140737488351232) (ht : t.size ≤ 140737488351232) :
    Calls Try.prog 5 #[.string s, .string t] w fun e w' => e = .returned (.bool true) ∧ Below w.heap.size w w' := by
  obtain ⟨l, rfl⟩ := B_of s
  obtain ⟨m, rfl⟩ := B_of t
  have hz : (B l).size = l.length := B_size l
  have hz2 : (B m).size = m.length := B_size m
  rw [hz] at hs
  rw [hz2] at ht
  by_cases hbig : l.length > 1048576
  · go_enter Try.func5, Try.ntmps5
    go_wp2_with fail
    go_ret
    exact ⟨rfl, Below.refl _ _⟩
  by_cases hbig2 : m.length > 1048576
  · go_enter Try.func5, Try.ntmps5
    go_wp2_with fail
    go_ret
    exact ⟨rfl, Below.refl _ _⟩
  · have HF := Lib.hid (spec_val l m)
    go_enter Try.func5, Try.ntmps5
    go_wp2_with fail
    refine (spec_CountKind.calls 3000 (B l) (B m) _ _ _ HF.out).mono ?_
    rintro e w1 ⟨rfl, hb1⟩
    go_wp2_with fail
    refine (CountKind_calls l m _ hs ht).mono ?_
    rintro e w2 ⟨rfl, hb⟩
    replace hb := below_then hb1 hb1.size hb
    clear hb1
    go_wp2_with fail
    go_ret
    exact ⟨rfl, hb⟩

end Go.Proofs.Ytfcadppidgkoaaa.PFnExactCountKind
