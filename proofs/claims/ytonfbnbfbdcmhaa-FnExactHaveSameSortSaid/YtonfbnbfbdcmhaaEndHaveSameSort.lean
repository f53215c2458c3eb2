/- The law FnExactHaveSameSort, walked: the program's answer is the reference's. (Written by gen_endsame.py.) -/
import Derived.Test.YtonfbnbfbdcmhaaSortE
import Derived.Test.YtonfbnbfbdcmhaaWTab
import Derived.Test.YtonfbnbfbdcmhaaWFour
namespace Go.Proofs.Ytonfbnbfbdcmhaa.PFnExactHaveSameSort
open Go.RowKit Go.Proofs.YtonfbnbfbdcmhaaW.PrintWords Go.Proofs.YtonfbnbfbdcmhaaW.PrintLast Go.Proofs.YtonfbnbfbdcmhaaW.PrintMore Go.Proofs.Ytonfbnbfbdcmhaa.Pterm Go.Proofs.Ytonfbnbfbdcmhaa.PsoPlace Go.Proofs.Ytonfbnbfbdcmhaa.Rf
set_option linter.unusedVariables false
set_option linter.unusedSimpArgs false

def sameV (p a b : List UInt8) : Bool × Bool := if withB p [a, b] = true then (decide ((Srt.of (parsed p).1).rt (placeV p a) = (Srt.of (parsed p).1).rt (placeV p b)), true) else (false, false)
theorem with_two (p a b : List UInt8) : withB p [a, b] = (withB p [a] && withB p [b]) := by
  simp only [withB, List.all_cons, List.all_nil, Bool.and_true]
  cases readOk p <;> cases freeB p a <;> cases freeB p b <;> rfl
def same_.T5 : Bool × List (List Nat × List Nat) := (true, [([], []), ([], []), ([1], [1]), ([2], [2]), ([3], [3]), ([], []), ([5], [5]), ([4, 6], [4, 6]), ([0, 7], [0, 7]), ([], []), ([], []), ([10], [10]), ([11], [11]), ([12], [12]), ([], []), ([14], [14]), ([13, 15], [13, 15]), ([9, 16, 8], [9, 16]), ([8, 17], [8, 17]), ([18, 17, 0, 1, 2, 3, 4, 5, 6, 7, 8, 9, 10, 11, 12, 13, 14, 15, 16, 17, 18], [18]), ([19, 0, 1, 2, 3, 4, 5, 6, 7, 8, 9, 10, 11, 12, 13, 14, 15, 16, 17, 18, 19], [])])
def same_.B5 : List Nat := [0, 0, 2, 6, 14, 0, 32, 126, 255, 0, 0, 1024, 3072, 7168, 0, 16384, 64512, 131071, 262143, 524287, 1048575]
theorem same_.tab5 : rtab .any (opsOf Try.f17 5) = same_.T5 := by kernel_rfl
theorem same_.bits5 : waitsOk same_.T5.2 same_.B5 = true := by kernel_rfl
set_option maxHeartbeats 4000000 in
set_option maxRecDepth 100000 in
theorem same_prog (p a b : List UInt8) (w : World) (hp : p.length ≤ 140737488351232) (ha : a.length ≤ 140737488351232) (hb : b.length ≤ 140737488351232) :
    Calls Try.prog 17 #[.string (B p), .string (B a), .string (B b)] w fun e w' => e = .returned (.tuple #[.bool (sameV p a b).1, .bool (sameV p a b).2]) ∧ Below w.heap.size w w' := by
  go_enter Try.func17, Try.ntmps17
  go_wp2_with fail
  have hT := words_new w [a, b] 9
  simp only [List.map_cons, List.map_nil] at hT
  have hb1 : Below w.heap.size w (w.alloc (.cells #[.string (B a), .string (B b)] 9)) := (Below.refl w.heap.size w).alloc (Nat.le_refl _) _
  generalize w.alloc (.cells #[.string (B a), .string (B b)] 9) = w1 at hT hb1 ⊢
  refine (withFree_calls p w.heap.size 2 [a, b] w1 hp hT (by simp) (fun x hx => by
    rcases List.mem_cons.mp hx with rfl | hx
    · exact ha
    · rw [List.mem_singleton.mp hx]; exact hb)).mono ?_
  rintro e w2 ⟨hb2, q, rfl, hq⟩
  have hbb := below_then hb1 hb1.size hb2
  rcases hok : withB p [a, b] with _ | _
  · have hv : Hid (sameV p a b = (false, false)) := by simp [Hid, sameV, hok]
    clear hok hq hT hb1 hb2
    go_wp2_with fail
    go_ret2
    exact ⟨by rw [hv.out]; rfl, hbb⟩
  obtain ⟨k, rfl, hli⟩ := hq hok
  have hok1 := hok
  rw [with_two, Bool.and_eq_true] at hok1
  obtain ⟨hr, c, rfl, hc, hm, hpv, hpn⟩ := with_name hok1.1
  obtain ⟨_, d, rfl, hd, hm2, hqv, hqn⟩ := with_name hok1.2
  have HSO := sortsOf_read hr hbb (hli.mono hb1.size)
  have HO := Lib.hid (Srt.of_ok (read_good hr).2.2.1)
  have HV : Hid (sameV p [c] [d] = (decide ((Srt.of (parsed p).1).rt (Srt.place (sortL (parsed p).1.fr) c) = (Srt.of (parsed p).1).rt (Srt.place (sortL (parsed p).1.fr) d)), true)) := by
    rw [Hid]; unfold sameV; rw [hpv, hqv, if_pos hok]
  have hn : (Srt.of (parsed p).1).n ≤ 1000000 := by have := HO.out.2; have := (read_good hr).2.2.2; omega
  generalize sortL (parsed p).1.fr = L at hpn hqn HV HO HSO hm hm2
  generalize Srt.of (parsed p).1 = s at hpn hqn HV HO HSO hn
  have HC := Lib.hid hm
  have HD := Lib.hid hm2
  have hz : (B [c]).size = 1 := B_size [c]
  have hby := byte_of [c] 0 (by simp)
  have hz2 : (B [d]).size = 1 := B_size [d]
  have hby2 := byte_of [d] 0 (by simp)
  clear hok hok1 hq hT hb1 hb2 hbb hli hr hc hm hpv hd hm2 hqv
  go_wp2_with fail
  refine HSO.mono ?_
  rintro e w3 ⟨g, m, N, v1, v2, rfl, T⟩
  have HT3 := Lib.hid T
  have q3 := eqb_int (a := s.rt (Srt.place L c)) (b := s.rt (Srt.place L d))
  clear HSO T
  go_wp2_with fail
  refine start_ (n := 21) (S := fun w' => w'.cell? ⟨g, 2, none⟩ = some (.map (some m)) ∧ (Instr.lookup 57 (.map (some m)) (.int .u8 (vl c)) false).run Try.prog w' = .ok (.int .i64 ((Srt.place L c : Nat) : Int)) w' ∧ (Instr.lookup 57 (.map (some m)) (.int .u8 (vl d)) false).run Try.prog w' = .ok (.int .i64 ((Srt.place L d : Nat) : Int)) w') (ds := []) #[false, false, false, false, false, false, false, false, false, false, false, false, false, false, false, false, false, false, false, false, false] (by kernel_rfl) rfl rfl ⟨HT3.out.drew.sr.c2, HT3.out.drew.look HC.out, HT3.out.drew.look HD.out⟩ (fun hHeld => ?_)
  refine with_tabW same_.tab5 same_.bits5 (fun HT_ HW_ => ?_)
  have T := HT3.out.drew
  generalize w3.drew = W3 at T hHeld ⊢
  refine pure_ (i := 0) (N := some 23) (v := ?_) (a' := ?_) #[true, false, false, false, false, false, false, false, false, false, false, false, false, false, false, false, false, false, false, false, false] rfl rfl (any_of HT_.out (by kernel_rfl)) (fun _ _ _ h => h) (Or.inl ⟨by rfl, ?_⟩) ?_ ?_
  rotate_left; (intro w'; go_simp; with_reducible rfl); rotate_left; (simp only [Act.put, List.setIfInBounds_toArray, List.set_cons_zero, List.set_cons_succ, i64_w, i32_w]; rfl)
  refine pure_ (i := 1) (N := some 24) (v := ?_) (a' := ?_) #[true, true, false, false, false, false, false, false, false, false, false, false, false, false, false, false, false, false, false, false, false] rfl rfl (any_of HT_.out (by kernel_rfl)) (fun _ _ _ h => h) (Or.inl ⟨by rfl, ?_⟩) ?_ ?_
  rotate_left; (intro w'; go_simp; with_reducible rfl); rotate_left; (simp only [Act.put, List.setIfInBounds_toArray, List.set_cons_zero, List.set_cons_succ, i64_w, i32_w]; rfl)
  refine pure_ (i := 2) (N := some 25) (v := ?_) (a' := ?_) #[true, true, true, false, false, false, false, false, false, false, false, false, false, false, false, false, false, false, false, false, false] rfl rfl (any_of HT_.out (by kernel_rfl)) (fun _ _ _ h => h) (Or.inl ⟨by rfl, ?_⟩) ?_ ?_
  rotate_left; (intro w'; go_simp; with_reducible rfl); rotate_left; (simp only [Act.put, List.setIfInBounds_toArray, List.set_cons_zero, List.set_cons_succ, i64_w, i32_w]; rfl)
  refine pure_ (i := 3) (N := some 26) (v := ?_) (a' := ?_) #[true, true, true, true, false, false, false, false, false, false, false, false, false, false, false, false, false, false, false, false, false] rfl rfl (any_of HT_.out (by kernel_rfl)) (fun _ _ _ h => h) (Or.inl ⟨by rfl, ?_⟩) ?_ ?_
  rotate_left; (intro w'; go_simp; with_reducible rfl); rotate_left; (simp only [Act.put, List.setIfInBounds_toArray, List.set_cons_zero, List.set_cons_succ, i64_w, i32_w]; rfl)
  refine pure_ (i := 5) (N := some 28) (v := ?_) (a' := ?_) #[true, true, true, true, false, true, false, false, false, false, false, false, false, false, false, false, false, false, false, false, false] rfl rfl (any_of HT_.out (by kernel_rfl)) (fun _ _ _ h => h) (Or.inl ⟨by rfl, ?_⟩) ?_ ?_
  rotate_left; (intro w'; go_simp; with_reducible rfl); rotate_left; (simp only [Act.put, List.setIfInBounds_toArray, List.set_cons_zero, List.set_cons_succ, i64_w, i32_w]; rfl)
  refine pure_ (i := 9) (N := some 32) (v := ?_) (a' := ?_) #[true, true, true, true, false, true, false, false, false, true, false, false, false, false, false, false, false, false, false, false, false] rfl rfl (any_of HT_.out (by kernel_rfl)) (fun _ _ _ h => h) (Or.inl ⟨by rfl, ?_⟩) ?_ ?_
  rotate_left; (intro w'; go_simp; with_reducible rfl); rotate_left; (simp only [Act.put, List.setIfInBounds_toArray, List.set_cons_zero, List.set_cons_succ, i64_w, i32_w]; rfl)
  refine pure_ (i := 10) (N := some 33) (v := ?_) (a' := ?_) #[true, true, true, true, false, true, false, false, false, true, true, false, false, false, false, false, false, false, false, false, false] rfl rfl (any_of HT_.out (by kernel_rfl)) (fun _ _ _ h => h) (Or.inl ⟨by rfl, ?_⟩) ?_ ?_
  rotate_left; (intro w'; go_simp; with_reducible rfl); rotate_left; (simp only [Act.put, List.setIfInBounds_toArray, List.set_cons_zero, List.set_cons_succ, i64_w, i32_w]; rfl)
  refine pure_ (i := 11) (N := some 34) (v := ?_) (a' := ?_) #[true, true, true, true, false, true, false, false, false, true, true, true, false, false, false, false, false, false, false, false, false] rfl rfl (any_of HT_.out (by kernel_rfl)) (fun _ _ _ h => h) (Or.inl ⟨by rfl, ?_⟩) ?_ ?_
  rotate_left; (intro w'; go_simp; with_reducible rfl); rotate_left; (simp only [Act.put, List.setIfInBounds_toArray, List.set_cons_zero, List.set_cons_succ, i64_w, i32_w]; rfl)
  refine pure_ (i := 12) (N := some 35) (v := ?_) (a' := ?_) #[true, true, true, true, false, true, false, false, false, true, true, true, true, false, false, false, false, false, false, false, false] rfl rfl (any_of HT_.out (by kernel_rfl)) (fun _ _ _ h => h) (Or.inl ⟨by rfl, ?_⟩) ?_ ?_
  rotate_left; (intro w'; go_simp; with_reducible rfl); rotate_left; (simp only [Act.put, List.setIfInBounds_toArray, List.set_cons_zero, List.set_cons_succ, i64_w, i32_w]; rfl)
  refine pure_ (i := 14) (N := some 37) (v := ?_) (a' := ?_) #[true, true, true, true, false, true, false, false, false, true, true, true, true, false, true, false, false, false, false, false, false] rfl rfl (any_of HT_.out (by kernel_rfl)) (fun _ _ _ h => h) (Or.inl ⟨by rfl, ?_⟩) ?_ ?_
  rotate_left; (intro w'; go_simp; with_reducible rfl); rotate_left; (simp only [Act.put, List.setIfInBounds_toArray, List.set_cons_zero, List.set_cons_succ, i64_w, i32_w]; rfl)
  refine take_ (i := 4) (N := some 27) (v := ?_) (a' := ?_) #[true, true, true, true, true, true, false, false, false, true, true, true, true, false, true, false, false, false, false, false, false] rfl rfl (take_ofW HT_.out HW_.out (by kernel_rfl)) (fun _ _ _ h => h) (Or.inl ⟨by rfl, ?_⟩) hHeld ?_ ?_
  rotate_left; (rintro w' ⟨s0, s1, s2⟩; go_simp; with_reducible rfl); rotate_left; (simp only [Act.put, List.setIfInBounds_toArray, List.set_cons_zero, List.set_cons_succ, i64_w, i32_w]; rfl)
  refine take_ (i := 6) (N := some 29) (v := ?_) (a' := ?_) #[true, true, true, true, true, true, true, false, false, true, true, true, true, false, true, false, false, false, false, false, false] rfl rfl (take_ofW HT_.out HW_.out (by kernel_rfl)) (fun _ _ _ h => h) (Or.inl ⟨by rfl, ?_⟩) hHeld ?_ ?_
  rotate_left; (rintro w' ⟨s0, s1, s2⟩; go_simp; with_reducible rfl); rotate_left; (simp only [Act.put, List.setIfInBounds_toArray, List.set_cons_zero, List.set_cons_succ, i64_w, i32_w]; rfl)
  refine take_ (i := 7) (N := some 30) (v := ?_) (a' := ?_) #[true, true, true, true, true, true, true, true, false, true, true, true, true, false, true, false, false, false, false, false, false] rfl rfl (take_ofW HT_.out HW_.out (by kernel_rfl)) (fun _ _ _ h => h) (Or.inl ⟨by rfl, ?_⟩) hHeld ?_ ?_
  rotate_left; (rintro w' ⟨s0, s1, s2⟩; go_simp; with_reducible rfl); rotate_left; (simp only [Act.put, List.setIfInBounds_toArray, List.set_cons_zero, List.set_cons_succ, i64_w, i32_w]; rfl)
  refine take_ (i := 13) (N := some 36) (v := ?_) (a' := ?_) #[true, true, true, true, true, true, true, true, false, true, true, true, true, true, true, false, false, false, false, false, false] rfl rfl (take_ofW HT_.out HW_.out (by kernel_rfl)) (fun _ _ _ h => h) (Or.inl ⟨by rfl, ?_⟩) hHeld ?_ ?_
  rotate_left; (rintro w' ⟨s0, s1, s2⟩; go_simp; with_reducible rfl); rotate_left; (simp only [Act.put, List.setIfInBounds_toArray, List.set_cons_zero, List.set_cons_succ, i64_w, i32_w]; rfl)
  refine take_ (i := 15) (N := some 38) (v := ?_) (a' := ?_) #[true, true, true, true, true, true, true, true, false, true, true, true, true, true, true, true, false, false, false, false, false] rfl rfl (take_ofW HT_.out HW_.out (by kernel_rfl)) (fun _ _ _ h => h) (Or.inl ⟨by rfl, ?_⟩) hHeld ?_ ?_
  rotate_left; (rintro w' ⟨s0, s1, s2⟩; go_simp; with_reducible rfl); rotate_left; (simp only [Act.put, List.setIfInBounds_toArray, List.set_cons_zero, List.set_cons_succ, i64_w, i32_w]; rfl)
  refine take_ (i := 16) (N := some 39) (v := ?_) (a' := ?_) #[true, true, true, true, true, true, true, true, false, true, true, true, true, true, true, true, true, false, false, false, false] rfl rfl (take_ofW HT_.out HW_.out (by kernel_rfl)) (fun _ _ _ h => h) (Or.inl ⟨by rfl, ?_⟩) hHeld ?_ ?_
  rotate_left; (rintro w' ⟨s0, s1, s2⟩; go_simp; with_reducible rfl); rotate_left; (simp only [Act.put, List.setIfInBounds_toArray, List.set_cons_zero, List.set_cons_succ, i64_w, i32_w]; rfl)
  refine one_ (i := 8) (N := some 31) #[true, true, true, true, true, true, true, true, true, true, true, true, true, true, true, true, true, false, false, false, false] rfl rfl (one_of HT_.out (by kernel_rfl)) (by decide) (fun K hK => ?_)
  refine goes_ Try.func45 (by kernel_rfl) rfl #[.pointer (some ⟨g, 0, none⟩), .int .i64 ((Srt.place L c : Nat) : Int)] (by rfl) rfl rfl (by simp only [List.map_toArray, List.map_cons, List.map_nil]; rfl) ?_
  with_reducible refine (root_calls T.sr HO.out.1 hpn hn).mono ?_
  rintro e W4 ⟨rfl, rfl⟩
  refine ⟨_, rfl, ?_⟩
  clear hHeld
  refine hK.out _ _ ⟨T.sr.c2, T.look HC.out, T.look HD.out⟩ (fun hHeld => ?_)
  clear hK K
  refine norm_ (a' := ?_) ?_ ?_
  rotate_left
  · show Act.put _ (some 31) _ = _
    simp only [Act.put, List.setIfInBounds_toArray, List.set_cons_zero, List.set_cons_succ, i64_w, i32_w]
    rfl
  refine one_ (i := 17) (N := some 40) #[true, true, true, true, true, true, true, true, true, true, true, true, true, true, true, true, true, true, false, false, false] rfl rfl (one_of HT_.out (by kernel_rfl)) (by decide) (fun K hK => ?_)
  refine goes_ Try.func45 (by kernel_rfl) rfl #[.pointer (some ⟨g, 0, none⟩), .int .i64 ((Srt.place L d : Nat) : Int)] (by rfl) rfl rfl (by simp only [List.map_toArray, List.map_cons, List.map_nil]; rfl) ?_
  with_reducible refine (root_calls T.sr HO.out.1 hqn hn).mono ?_
  rintro e W4 ⟨rfl, rfl⟩
  refine ⟨_, rfl, ?_⟩
  clear hHeld
  refine hK.out _ _ ⟨T.sr.c2, T.look HC.out, T.look HD.out⟩ (fun hHeld => ?_)
  clear hK K
  refine norm_ (a' := ?_) ?_ ?_
  rotate_left
  · show Act.put _ (some 40) _ = _
    simp only [Act.put, List.setIfInBounds_toArray, List.set_cons_zero, List.set_cons_succ, i64_w, i32_w]
    rfl
  refine pure_ (i := 18) (N := some 41) (v := ?_) (a' := ?_) #[true, true, true, true, true, true, true, true, true, true, true, true, true, true, true, true, true, true, true, false, false] rfl rfl (any_of HT_.out (by kernel_rfl)) (fun _ _ _ h => h) (Or.inl ⟨by rfl, ?_⟩) ?_ ?_
  rotate_left; (intro w'; go_simp; with_reducible rfl); rotate_left; (simp only [Act.put, List.setIfInBounds_toArray, List.set_cons_zero, List.set_cons_succ, i64_w, i32_w]; rfl)
  refine pure_ (i := 19) (N := some 6) (v := ?_) (a' := ?_) #[true, true, true, true, true, true, true, true, true, true, true, true, true, true, true, true, true, true, true, true, false] rfl rfl (any_of HT_.out (by kernel_rfl)) (fun _ _ _ h => h) (Or.inl ⟨by rfl, ?_⟩) ?_ ?_
  rotate_left; (intro w'; go_simp; with_reducible rfl); rotate_left; (simp only [Act.put, List.setIfInBounds_toArray, List.set_cons_zero, List.set_cons_succ, i64_w, i32_w]; rfl)
  refine pure_ (i := 20) (N := some 7) (v := ?_) (a' := ?_) #[true, true, true, true, true, true, true, true, true, true, true, true, true, true, true, true, true, true, true, true, true] rfl rfl (any_of HT_.out (by kernel_rfl)) (fun _ _ _ h => h) (Or.inl ⟨by rfl, ?_⟩) ?_ ?_
  rotate_left; (intro w'; go_simp; with_reducible rfl); rotate_left; (simp only [Act.put, List.setIfInBounds_toArray, List.set_cons_zero, List.set_cons_succ, i64_w, i32_w]; rfl)
  refine done_ (done_of HT_.out (by kernel_rfl)) ?_
  go_wp2_with fail
  go_ret2
  exact ⟨by rw [HV.out]; rfl, T.below⟩

set_option maxHeartbeats 2000000 in
theorem same_spec (p a b : List UInt8) (w : World) :
    Calls Try.prog 16 #[.string (B p), .string (B a), .string (B b)] w fun e w' => e = .returned (.tuple #[.bool (sameV p a b).1, .bool (sameV p a b).2]) ∧ Below w.heap.size w w' := by
  have hpl := place_f p a
  have hpl2 := place_f p b
  rcases hok : withB p [a, b] with _ | _
  · have hv : Hid (sameV p a b = (false, false)) := by simp [Hid, sameV, hok]
    rw [with_two] at hok
    rcases h1 : withB p [a] with _ | _
    · rw [h1] at hpl
      generalize withB p [b] = y at hpl2
      clear hok h1
      go_enter Try.func16, Try.ntmps16
      go_wp2_with fail
      refine (spec_soPlace.calls 4000 (B p) (B a) _ _ _ hpl).mono ?_
      rintro e w1 ⟨rfl, hb⟩
      clear hpl
      go_wp2_with fail
      refine (spec_soPlace.calls 4000 (B p) (B b) _ _ _ hpl2).mono ?_
      rintro e w2 ⟨rfl, hb2⟩
      replace hb := below_then hb hb.size hb2
      clear hpl2 hb2
      go_wp2_with fail
      go_ret2
      exact ⟨by rw [hv.out]; rfl, hb⟩
    · have h2 : withB p [b] = false := by rw [h1] at hok; simpa using hok
      rw [h1] at hpl
      rw [h2] at hpl2
      clear hok h1 h2
      go_enter Try.func16, Try.ntmps16
      go_wp2_with fail
      refine (spec_soPlace.calls 4000 (B p) (B a) _ _ _ hpl).mono ?_
      rintro e w1 ⟨rfl, hb⟩
      clear hpl
      go_wp2_with fail
      refine (spec_soPlace.calls 4000 (B p) (B b) _ _ _ hpl2).mono ?_
      rintro e w2 ⟨rfl, hb2⟩
      replace hb := below_then hb hb.size hb2
      clear hpl2 hb2
      go_wp2_with fail
      go_ret2
      exact ⟨by rw [hv.out]; rfl, hb⟩
  · have hok1 := hok
    rw [with_two, Bool.and_eq_true] at hok1
    obtain ⟨hr, c, rfl, hc, hm, hpv, hpn⟩ := with_name hok1.1
    obtain ⟨_, d, rfl, hd, hm2, hqv, hqn⟩ := with_name hok1.2
    have HS := Lib.hid (rsof_read hr)
    have HO := Lib.hid (Srt.of_ok (read_good hr).2.2.1)
    have HV : Hid (sameV p [c] [d] = (decide ((Srt.of (parsed p).1).rt (placeV p [c]) = (Srt.of (parsed p).1).rt (placeV p [d])), true)) := by
      rw [Hid]; unfold sameV; rw [if_pos hok]
    rw [hok1.1] at hpl
    rw [hok1.2] at hpl2
    rw [← hpv] at hpn
    rw [← hqv] at hqn
    generalize placeV p [c] = x at hpl hpn HV
    generalize placeV p [d] = y at hpl2 hqn HV
    generalize Srt.of (parsed p).1 = s at hpn hqn HV HO HS
    have hn : s.n ≤ 1000000 := by have := HO.out.2; have := (read_good hr).2.2.2; omega
    clear hok hok1 hr hc hm hpv hd hm2 hqv
    go_enter Try.func16, Try.ntmps16
    go_wp2_with fail
    refine (spec_soPlace.calls 4000 (B p) (B [c]) _ _ _ hpl).mono ?_
    rintro e w1 ⟨rfl, hb⟩
    clear hpl
    go_wp2_with fail
    refine (spec_soPlace.calls 4000 (B p) (B [d]) _ _ _ hpl2).mono ?_
    rintro e w2 ⟨rfl, hb2⟩
    have HB := Lib.hid (below_then hb hb.size hb2)
    clear hpl2 hb2 hb
    go_wp2_with fail
    refine (HS.out _).mono ?_
    rintro e w3 ⟨g, N, v1, v2, rfl, hs, hb3, hg, hN⟩
    have hr1 := Rf.root_calls hs HO.out.1 hpn hn
    have hr2 := Rf.root_calls hs HO.out.1 hqn hn
    have HB2 := Lib.hid (below_then HB.out HB.out.size hb3)
    have q3 := eqb_int (a := s.rt x) (b := s.rt y)
    clear hs hb3 hg hN
    go_wp2_with fail
    refine hr1.mono ?_
    rintro e w4 ⟨rfl, rfl⟩
    clear hr1
    go_wp2_with fail
    refine hr2.mono ?_
    rintro e w5 ⟨rfl, rfl⟩
    clear hr2
    go_wp2_with fail
    go_ret2
    exact ⟨by rw [HV.out]; rfl, HB2.out⟩

set_option maxHeartbeats 1000000 in
theorem law_walk (s t u : ByteArray) (w : World) (hs : s.size ≤ 140737488351232) (ht : t.size ≤ 140737488351232) (hu : u.size ≤ 140737488351232) :
    Calls Try.prog 5 #[.string s, .string t, .string u] w fun e w' => e = .returned (.bool true) ∧ Below w.heap.size w w' := by
  obtain ⟨l, rfl⟩ := B_of s
  obtain ⟨m, rfl⟩ := B_of t
  obtain ⟨n, rfl⟩ := B_of u
  have hzl : (B l).size = l.length := B_size l
  rw [hzl] at hs
  have hzm : (B m).size = m.length := B_size m
  rw [hzm] at ht
  have hzn : (B n).size = n.length := B_size n
  rw [hzn] at hu
  by_cases hbigl : l.length > 1048576
  · go_enter Try.func5, Try.ntmps5
    go_wp2_with fail
    go_ret
    exact ⟨rfl, Below.refl _ _⟩
  by_cases hbigm : m.length > 1048576
  · go_enter Try.func5, Try.ntmps5
    go_wp2_with fail
    go_ret
    exact ⟨rfl, Below.refl _ _⟩
  by_cases hbign : n.length > 1048576
  · go_enter Try.func5, Try.ntmps5
    go_wp2_with fail
    go_ret
    exact ⟨rfl, Below.refl _ _⟩
  · have HF := same_spec l m n
    have HI := same_prog l m n
    go_enter Try.func5, Try.ntmps5
    go_wp2_with fail
    refine (HF _).mono ?_
    rintro e w1 ⟨rfl, hb1⟩
    go_wp2_with fail
    refine (HI _ hs ht hu).mono ?_
    rintro e w2 ⟨rfl, hb⟩
    replace hb := below_then hb1 hb1.size hb
    clear hb1
    go_wp2_with fail
    go_ret
    exact ⟨rfl, hb⟩
end Go.Proofs.Ytonfbnbfbdcmhaa.PFnExactHaveSameSort
