/- The law FnExactReplaceAt, walked: the program's answer is the reference's. -/
import Derived.Test.YtjinjanjjecmiaaPutReplaceAt
import Derived.Test.YtjinjanjjecmiaaIfReplaceAt
import Derived.Test.YtjinjanjjecmiaaToldT
import Derived.Test.YtjinjanjjecmiaaWithT
namespace Go.Proofs.Ytjinjanjjecmiaa.PFnExactReplaceAt
open Go.RowKit Go.Proofs.YtjinjanjjecmiaaW.PrintWords Go.Proofs.YtjinjanjjecmiaaW.PrintLast Go.Proofs.YtjinjanjjecmiaaW.PrintMore Go.Proofs.Ytjinjanjjecmiaa.Pterm Go.Proofs.Ytjinjanjjecmiaa.PReplaceAt
set_option linter.unusedVariables false
set_option linter.unusedSimpArgs false

/-- What both say. -/
def val (l path m : List UInt8) : ByteArray × Bool := if readOk l = true ∧ readOk m = true ∧ ((parsed l).1.sub path).isSome = true then tolT (putT (parsed m).1 path (parsed l).1) else (B [], false)
theorem sub_path (path : List UInt8) : ∀ t : Tm, (t.sub path).isSome = true → path.length < t.size := by
  induction path with
  | nil => intro t _; cases t <;> simp only [Tm.size, List.length_nil] <;> omega
  | cons c l ih =>
    intro t h
    obtain ⟨j, hj, _, hj2, hs⟩ := sub_step h
    have h1 := ih _ hs
    have h2 := (kid_txl t j hj).2
    simp only [List.length_cons]
    omega

set_option maxHeartbeats 2000000 in
theorem ReplaceAt_calls (l path m : List UInt8) (w : World) (hl : l.length ≤ 140737488351232) (hp : path.length ≤ 140737488351232) (hm : m.length ≤ 140737488351232) :
    Calls Try.prog 39 #[.string (B l), .string (B path), .string (B m)] w fun e w' => e = .returned (.tuple #[.string (val l path m).1, .bool (val l path m).2]) ∧ Below w.heap.size w w' := by
  go_enter Try.func39, Try.ntmps39
  go_wp2_with fail
  refine (read_calls l w hl).mono ?_
  rintro e w1 ⟨hb, p, rfl, hpp⟩
  go_wp2_with fail
  refine (read_calls m w1 hm).mono ?_
  rintro e w2 ⟨hb2, p2, rfl, hpp2⟩
  have hb3 := below_then hb hb.size hb2
  rcases hok : readOk l with _ | _
  · have hv : Hid (val l path m = (B [], false)) := by simp [Hid, val, hok]
    clear hok hpp hpp2 hb hb2
    go_wp2_with fail
    go_ret2
    exact ⟨by rw [hv.out]; rfl, hb3⟩
  rcases hok2 : readOk m with _ | _
  · have hv : Hid (val l path m = (B [], false)) := by simp [Hid, val, hok2]
    clear hok hok2 hpp hpp2 hb hb2
    go_wp2_with fail
    go_ret2
    exact ⟨by rw [hv.out]; rfl, hb3⟩
  have hv0 : Hid (val l path m = if ((parsed l).1.sub path).isSome = true then tolT (putT (parsed m).1 path (parsed l).1) else (B [], false)) := by simp [Hid, val, hok, hok2]
  obtain ⟨b, rfl, hli⟩ := hpp hok
  obtain ⟨x, rfl, hli2⟩ := hpp2 hok2
  have HG := Lib.hid (read_good hok)
  have HG2 := Lib.hid (read_good hok2)
  have HL := Lib.hid (hli.below hb2)
  have HL2 := Lib.hid (hli2.mono hb.size)
  have HB3 := Lib.hid hb3
  clear hok hok2 hpp hpp2 hb hb2 hb3 hli hli2
  go_wp2_with fail
  refine (at_calls _ path _ _ _ hp HL.out).mono ?_
  rintro e w' ⟨rfl, hor⟩
  rcases hs : (parsed l).1.sub path with _ | u
  · rw [hs] at hor
    have hv : Hid (val l path m = (B [], false)) := by rw [Hid, hv0.out, hs]; rfl
    clear hs hv0
    simp only [] at hor
    subst hor
    go_wp2_with fail
    go_ret2
    exact ⟨by rw [hv.out]; rfl, HB3.out⟩
  · rw [hs] at hor
    have HSS : Hid (((parsed l).1.sub path).isSome = true) := by rw [Hid, hs]; rfl
    have hv : Hid (val l path m = tolT (putT (parsed m).1 path (parsed l).1)) := by rw [Hid, hv0.out, hs]; rfl
    obtain ⟨y, rfl, _⟩ := hor
    have HPL : Hid (path.length ≤ 100) := by
      have h1 := sub_path path _ HSS.out
      have h2 := HG.out.2.2.2
      simp only [Hid]; omega
    have HW : Hid (Wf isLet (putT (parsed m).1 path (parsed l).1)) := put_wf HG2.out.2.2.1 path HG.out.2.2.1
    have HTL : Hid ((putT (parsed m).1 path (parsed l).1).text.length ≤ 1000000) := by
      have h1 := HG.out.1
      have h2 := congrArg List.length HG.out.2.1
      have h3 := HG2.out.1
      have h4 := congrArg List.length HG2.out.2.1
      have h5 := put_len (parsed m).1 path (parsed l).1
      simp only [Hid]; omega
    clear hs hv0
    go_wp2_with fail
    refine (with_any 100 path _ _ w2 w2 _ _ _ HPL.out (by omega) HSS.out HB3.out.size HL.out HL2.out (Below.refl _ _)).mono ?_
    rintro e w3 ⟨z, rfl, hst, hb4⟩
    have HZ := Lib.hid (hst w3 fun _ _ _ => rfl)
    have HB4 := Lib.hid (below_then HB3.out HB3.out.size hb4)
    clear hst hb4
    go_wp2_with fail
    refine (told_calls _ _ _ _ HW.out HTL.out HZ.out).mono ?_
    rintro e w4 ⟨rfl, hb5⟩
    have HB5 := Lib.hid (below_then HB4.out HB4.out.size hb5)
    clear hb5
    go_wp2_with fail
    go_ret2
    exact ⟨by rw [hv.out]; rfl, HB5.out⟩

theorem spec_val (l path m : List UInt8) (hp : path.length ≤ 1048576) : spec_ReplaceAt.f 2000000 (B l) (B path) (B m) = some ((val l path m).1, (val l path m).2) := by
  unfold spec_ReplaceAt.f
  rw [good_f l 2000000 (by omega), Option.bind_some]
  rcases hok : readOk l with _ | _
  · have hv : val l path m = (B [], false) := by simp [val, hok]
    rw [if_neg (by decide), spec_ReplaceAt.j0, if_pos rfl, hv]; rfl
  rw [if_pos rfl, good_f m 2000000 (by omega), Option.bind_some]
  rcases hok2 : readOk m with _ | _
  · have hv : val l path m = (B [], false) := by simp [val, hok2]
    rw [spec_ReplaceAt.j0, if_pos (by decide), hv]; rfl
  obtain ⟨h1, h2, h3, h4⟩ := read_good hok
  obtain ⟨k1, k2, k3, k4⟩ := read_good hok2
  have e := at_text path (by omega) path (parsed l).1 0 1999999 (At.start path) (Wf.names (fun c => let_name) h3) (by rw [← h2]; omega) (by omega)
  rw [← h2] at e
  have e2 : spec_tmAt.f 1999999 (B l) (B path) = some (subRes ((parsed l).1.sub path)) := e
  rw [spec_ReplaceAt.j0, if_neg (by decide), e2, Option.bind_some]
  rcases hs : (parsed l).1.sub path with _ | u
  · have hv : val l path m = (B [], false) := by simp [val, hs]
    rw [hv]; rfl
  · have hss : ((parsed l).1.sub path).isSome = true := by rw [hs]; rfl
    have hv : val l path m = tolT (putT (parsed m).1 path (parsed l).1) := by simp [val, hok, hok2, hs]
    have hq := put_text (parsed m).1 path (parsed l).1 1999999 hss (Wf.names (fun c => let_name) h3) (by rw [← h2, ← k2]; omega) (by have := sub_path path _ hss; omega) (by have := sub_path path _ hss; omega)
    rw [← h2, ← k2] at hq
    rw [if_pos (show (subRes (some u)).2 = true from rfl), hq, Option.bind_some, if_f _ 1999999 (by omega), Option.bind_some, hv]
    rfl

set_option maxHeartbeats 1000000 in
theorem law_walk (s t u : ByteArray) (w : World) (hs : s.size ≤ 140737488351232) (ht : t.size ≤ 140737488351232) (hu : u.size ≤ 140737488351232) :
    Calls Try.prog 13 #[.string s, .string t, .string u] w fun e w' => e = .returned (.bool true) ∧ Below w.heap.size w w' := by
  obtain ⟨a, rfl⟩ := B_of s
  obtain ⟨x, rfl⟩ := B_of t
  obtain ⟨p, rfl⟩ := B_of u
  have hz : (B a).size = a.length := B_size a
  have hz2 : (B x).size = x.length := B_size x
  have hz3 : (B p).size = p.length := B_size p
  rw [hz] at hs
  rw [hz2] at ht
  rw [hz3] at hu
  by_cases hbig : a.length > 1048576
  · go_enter Try.func13, Try.ntmps13
    go_wp2_with fail
    go_ret
    exact ⟨rfl, Below.refl _ _⟩
  by_cases hbig2 : x.length > 1048576
  · go_enter Try.func13, Try.ntmps13
    go_wp2_with fail
    go_ret
    exact ⟨rfl, Below.refl _ _⟩
  by_cases hbig3 : p.length > 1048576
  · go_enter Try.func13, Try.ntmps13
    go_wp2_with fail
    go_ret
    exact ⟨rfl, Below.refl _ _⟩
  · have HF := Lib.hid (spec_val a x p (by omega))
    go_enter Try.func13, Try.ntmps13
    go_wp2_with fail
    refine (spec_ReplaceAt.calls 2000000 (B a) (B x) (B p) _ _ _ HF.out).mono ?_
    rintro e w1 ⟨rfl, hb1⟩
    go_wp2_with fail
    refine (ReplaceAt_calls a x p _ hs ht hu).mono ?_
    rintro e w2 ⟨rfl, hb⟩
    replace hb := below_then hb1 hb1.size hb
    clear hb1
    go_wp2_with fail
    go_ret
    exact ⟨rfl, hb⟩

end Go.Proofs.Ytjinjanjjecmiaa.PFnExactReplaceAt
