/- The law FnExactAreAlpha, walked: the program's answer is the reference's. -/
import Derived.Test.YtjinjanjjecmiaaAlphaI
import Derived.Test.YtjinjanjjecmiaaAlphaSAreAlpha
import Derived.Test.YtjinjanjjecmiaaRefsAreAlpha
import Derived.Test.YtjinjanjjecmiaaReads
namespace Go.Proofs.Ytjinjanjjecmiaa.PFnExactAreAlpha
open Go.RowKit Go.Proofs.YtjinjanjjecmiaaW.PrintWords Go.Proofs.YtjinjanjjecmiaaW.PrintLast Go.Proofs.YtjinjanjjecmiaaW.PrintMore Go.Proofs.Ytjinjanjjecmiaa.Pterm Go.Proofs.Ytjinjanjjecmiaa.PAreAlpha
set_option linter.unusedVariables false
set_option linter.unusedSimpArgs false

/-- What both say. -/
def val (l m : List UInt8) : Bool × Bool := if readOk l = true ∧ readOk m = true then (alp (parsed l).1 (parsed m).1 [] [], true) else (false, false)
set_option maxHeartbeats 2000000 in
theorem AreAlpha_calls (l m : List UInt8) (w : World) (hl : l.length ≤ 140737488351232) (hm : m.length ≤ 140737488351232) :
    Calls Try.prog 37 #[.string (B l), .string (B m)] w fun e w' => e = .returned (.tuple #[.bool (val l m).1, .bool (val l m).2]) ∧ Below w.heap.size w w' := by
  go_enter Try.func37, Try.ntmps37
  go_wp2_with fail
  refine (read_calls l w hl).mono ?_
  rintro e w1 ⟨hb, p, rfl, hpp⟩
  go_wp2_with fail
  refine (read_calls m w1 hm).mono ?_
  rintro e w2 ⟨hb2, p2, rfl, hpp2⟩
  have hb3 := below_then hb hb.size hb2
  rcases hok : readOk l with _ | _
  · have hv : Hid (val l m = (false, false)) := by simp [Hid, val, hok]
    clear hok hpp hpp2 hb hb2
    go_wp2_with fail
    go_ret2
    exact ⟨by rw [hv.out]; rfl, hb3⟩
  rcases hok2 : readOk m with _ | _
  · have hv : Hid (val l m = (false, false)) := by simp [Hid, val, hok2]
    clear hok hok2 hpp hpp2 hb hb2
    go_wp2_with fail
    go_ret2
    exact ⟨by rw [hv.out]; rfl, hb3⟩
  have hv : Hid (val l m = (alp (parsed l).1 (parsed m).1 [] [], true)) := by simp [Hid, val, hok, hok2]
  obtain ⟨b, rfl, hli⟩ := hpp hok
  obtain ⟨x, rfl, hli2⟩ := hpp2 hok2
  have HG := Lib.hid (read_good hok)
  have HG2 := Lib.hid (read_good hok2)
  have HL := Lib.hid (hli.below hb2)
  have HL2 := Lib.hid (hli2.mono hb.size)
  have HB3 := Lib.hid hb3
  clear hok hok2 hpp hpp2 hb hb2 hb3 hli hli2
  go_wp2_with fail
  refine (alpha_any 100 (parsed l).1 (parsed m).1 [] [] 0 w2 w.heap.size b x rfl (by have := HG.out.2.2.2; omega) (by omega) rfl (by have := HG.out.2.2.2; simp; omega) HG.out.2.2.1 HG2.out.2.2.1 HL.out HL2.out).mono ?_
  rintro e w3 ⟨rfl, hb⟩
  have HB4 := Lib.hid (below_then HB3.out HB3.out.size hb)
  clear hb
  go_wp2_with fail
  go_ret2
  exact ⟨by rw [hv.out]; rfl, HB4.out⟩

theorem spec_val (l m : List UInt8) : spec_AreAlpha.f 2000000 (B l) (B m) = some ((val l m).1, (val l m).2) := by
  unfold spec_AreAlpha.f
  rw [good_f l 2000000 (by omega), Option.bind_some]
  rcases hok : readOk l with _ | _
  · have hv : val l m = (false, false) := by simp [val, hok]
    rw [if_neg (by decide), hv]
  rw [if_pos rfl, good_f m 2000000 (by omega), Option.bind_some]
  rcases hok2 : readOk m with _ | _
  · have hv : val l m = (false, false) := by simp [val, hok2]
    rw [if_neg (by decide), hv]
  obtain ⟨h1, h2, h3, h4⟩ := read_good hok
  obtain ⟨k1, k2, k3, k4⟩ := read_good hok2
  have hv : val l m = (alp (parsed l).1 (parsed m).1 [] [], true) := by simp [val, hok, hok2]
  have e := al_text (parsed l).1 (parsed m).1 [] [] 2000000 (Wf.names (fun c => let_name) h3) (by rw [← h2]; omega) (Wf.names (fun c => let_name) k3) (by rw [← k2]; omega) (by simp; omega) rfl (by simp; omega)
  rw [← h2, ← k2] at e
  rw [if_pos rfl, show (⟨#[]⟩ : ByteArray) = B [] from rfl, e, hv]
  rfl

set_option maxHeartbeats 1000000 in
theorem law_walk (s t : ByteArray) (w : World) (hs : s.size ≤ 140737488351232) (ht : t.size ≤ 140737488351232) :
    Calls Try.prog 12 #[.string s, .string t] w fun e w' => e = .returned (.bool true) ∧ Below w.heap.size w w' := by
  obtain ⟨a, rfl⟩ := B_of s
  obtain ⟨x, rfl⟩ := B_of t
  have hz : (B a).size = a.length := B_size a
  have hz2 : (B x).size = x.length := B_size x
  rw [hz] at hs
  rw [hz2] at ht
  by_cases hbig : a.length > 1048576
  · go_enter Try.func12, Try.ntmps12
    go_wp2_with fail
    go_ret
    exact ⟨rfl, Below.refl _ _⟩
  by_cases hbig2 : x.length > 1048576
  · go_enter Try.func12, Try.ntmps12
    go_wp2_with fail
    go_ret
    exact ⟨rfl, Below.refl _ _⟩
  · have HF := Lib.hid (spec_val a x)
    go_enter Try.func12, Try.ntmps12
    go_wp2_with fail
    refine (spec_AreAlpha.calls 2000000 (B a) (B x) _ _ _ HF.out).mono ?_
    rintro e w1 ⟨rfl, hb1⟩
    go_wp2_with fail
    refine (AreAlpha_calls a x _ hs ht).mono ?_
    rintro e w2 ⟨rfl, hb⟩
    replace hb := below_then hb1 hb1.size hb
    clear hb1
    go_wp2_with fail
    go_ret
    exact ⟨rfl, hb⟩

end Go.Proofs.Ytjinjanjjecmiaa.PFnExactAreAlpha
