/- The law FnExactLevelOf, walked: the program's answer is the reference's. (Written by gen_endlev.py.) -/
import Derived.Test.YtjgfgjhaghbehaaGreatSortE
import Derived.Test.YtjgfgjhaghbehaaGreatWTab
import Derived.Test.YtjgfgjhaghbehaaGreatWFour
namespace Go.Proofs.YtjgfgjhaghbehaaGreat.PFnExactLevelOf
open Go.RowKit Go.Proofs.YtjgfgjhaghbehaaGreatW.PrintWords Go.Proofs.YtjgfgjhaghbehaaGreatW.PrintLast Go.Proofs.YtjgfgjhaghbehaaGreatW.PrintMore Go.Proofs.YtjgfgjhaghbehaaGreat.Pterm Go.Proofs.YtjgfgjhaghbehaaGreat.PsoPlace Go.Proofs.YtjgfgjhaghbehaaGreat.Rf
set_option linter.unusedVariables false
set_option linter.unusedSimpArgs false

def lev_.T7 : Bool × List (List Nat × List Nat) := (true, [([], []), ([], []), ([1], [1]), ([2], [2]), ([3], [3]), ([], []), ([5], [5]), ([4, 6], [4, 6]), ([0, 7], [0, 7]), ([8, 8, 0, 1, 2, 3, 4, 5, 6, 7, 8], [8]), ([9, 0, 1, 2, 3, 4, 5, 6, 7, 8, 9], [])])
def lev_.B7 : List Nat := [0, 0, 2, 6, 14, 0, 32, 126, 255, 511, 1023]
theorem lev_.tab7 : rtab .any (opsOf Tryz.f6 7) = lev_.T7 := by kernel_rfl
theorem lev_.bits7 : waitsOk lev_.T7.2 lev_.B7 = true := by kernel_rfl
set_option maxHeartbeats 4000000 in
set_option maxRecDepth 100000 in
theorem LevelOf_calls (p a : List UInt8) (w : World) (hp : p.length ≤ 140737488351232) (ha : a.length ≤ 140737488351232) :
    Calls Tryz.prog 6 #[.string (B p), .string (B a)] w fun e w' => e = .returned (.tuple #[.int .i64 (levV p a).1, .bool (levV p a).2]) ∧ Below w.heap.size w w' := by
  go_enter Tryz.func6, Tryz.ntmps6
  go_wp2_with fail
  have hT := words_new w [a] 9
  simp only [List.map_cons, List.map_nil] at hT
  have hb1 : Below w.heap.size w (w.alloc (.cells #[.string (B a)] 9)) := (Below.refl w.heap.size w).alloc (Nat.le_refl _) _
  generalize w.alloc (.cells #[.string (B a)] 9) = w1 at hT hb1 ⊢
  refine (withFree_calls p w.heap.size 1 [a] w1 hp hT (by simp) (fun x hx => by rw [List.mem_singleton.mp hx]; exact ha)).mono ?_
  rintro e w2 ⟨hb2, q, rfl, hq⟩
  have hb := below_then hb1 hb1.size hb2
  rcases hok : withB p [a] with _ | _
  · have hv : Hid (levV p a = (0, false)) := by simp [Hid, levV, hok]
    clear hok hq hT hb1 hb2
    go_wp2_with fail
    go_ret2
    exact ⟨by rw [hv.out]; rfl, hb⟩
  obtain ⟨b, rfl, hli⟩ := hq hok
  obtain ⟨hr, c, rfl, hc, hm, hpv, hpn⟩ := with_name hok
  have HSO := sortsOf_read hr hb (hli.mono hb1.size)
  have HO := Lib.hid (Srt.of_ok (read_good hr).2.2.1)
  have HV : Hid (levV p [c] = if (Srt.of (parsed p).1).canBe = true then ((((((Srt.of (parsed p).1).lvl (Srt.place (sortL (parsed p).1.fr) c)).getD 0 : Nat) : Int)), true) else (0, false)) := by
    rw [Hid]; unfold levV; rw [hpv]; simp only [hok, true_and]
  have hn : (Srt.of (parsed p).1).n ≤ 1000000 := by have := HO.out.2; have := (read_good hr).2.2.2; omega
  generalize sortL (parsed p).1.fr = L at hpn HV HO HSO hm
  generalize Srt.of (parsed p).1 = s at hpn HV HO HSO hn
  have HC := Lib.hid hm
  have hz : (B [c]).size = 1 := B_size [c]
  have hby := byte_of [c] 0 (by simp)
  clear hok hq hT hb1 hb2 hb hli hr hc hm hpv
  go_wp2_with fail
  refine HSO.mono ?_
  rintro e w3 ⟨g, m, N, v1, v2, rfl, T⟩
  have HT := Lib.hid T
  have hcb := canBe_calls T.sr HO.out.1 hn
  clear HSO T
  rcases hcan : s.canBe with _ | _
  · have hv : Hid (levV p [c] = (0, false)) := by rw [Hid, HV.out, if_neg (by rw [hcan]; decide)]
    rw [hcan] at hcb
    clear hcan
    go_wp2_with fail
    refine hcb.mono ?_
    rintro e w4 ⟨rfl, k4, rfl⟩
    clear hcb
    go_wp2_with fail
    go_ret2
    exact ⟨by rw [hv.out]; rfl, (HT.out.drewN k4).below⟩
  · obtain ⟨k, hk, hkn⟩ := lev_some HO.out.1 hcan hpn
    have hv : Hid (levV p [c] = (((k : Nat) : Int), true)) := by rw [Hid, HV.out, if_pos hcan, hk]; rfl
    have HK := Lib.hid hk
    rw [hcan] at hcb
    clear hcan hk
    go_wp2_with fail
    refine hcb.mono ?_
    rintro e w4 ⟨rfl, k4, rfl⟩
    have HT3 := Lib.hid (HT.out.drewN k4)
    generalize w3.drewN k4 = w3 at HT3 ⊢
    clear hcb HT
    go_wp2_with fail
    refine start_ (n := 11) (S := fun w' => w'.cell? ⟨g, 2, none⟩ = some (.map (some m)) ∧ (Instr.lookup 48 (.map (some m)) (.int .u8 (vl c)) false).run Tryz.prog w' = .ok (.int .i64 ((Srt.place L c : Nat) : Int)) w') (ds := []) #[false, false, false, false, false, false, false, false, false, false, false] (by kernel_rfl) rfl rfl ⟨HT3.out.sr.c2, HT3.out.drew.look HC.out⟩ (fun hHeld => ?_)
    refine with_tabW lev_.tab7 lev_.bits7 (fun HT_ HW_ => ?_)
    have T := HT3.out.drew
    generalize w3.drew = W3 at T hHeld ⊢
    refine pure_ (i := 0) (N := some 23) (v := ?_) (a' := ?_) #[true, false, false, false, false, false, false, false, false, false, false] rfl rfl (any_of HT_.out (by kernel_rfl)) (fun _ _ _ h => h) (Or.inl ⟨by rfl, ?_⟩) ?_ ?_
    rotate_left; (intro w'; go_simp; with_reducible rfl); rotate_left; (simp only [Act.put, List.setIfInBounds_toArray, List.set_cons_zero, List.set_cons_succ, i64_w, i32_w]; rfl)
    refine pure_ (i := 1) (N := some 24) (v := ?_) (a' := ?_) #[true, true, false, false, false, false, false, false, false, false, false] rfl rfl (any_of HT_.out (by kernel_rfl)) (fun _ _ _ h => h) (Or.inl ⟨by rfl, ?_⟩) ?_ ?_
    rotate_left; (intro w'; go_simp; with_reducible rfl); rotate_left; (simp only [Act.put, List.setIfInBounds_toArray, List.set_cons_zero, List.set_cons_succ, i64_w, i32_w]; rfl)
    refine pure_ (i := 2) (N := some 25) (v := ?_) (a' := ?_) #[true, true, true, false, false, false, false, false, false, false, false] rfl rfl (any_of HT_.out (by kernel_rfl)) (fun _ _ _ h => h) (Or.inl ⟨by rfl, ?_⟩) ?_ ?_
    rotate_left; (intro w'; go_simp; with_reducible rfl); rotate_left; (simp only [Act.put, List.setIfInBounds_toArray, List.set_cons_zero, List.set_cons_succ, i64_w, i32_w]; rfl)
    refine pure_ (i := 3) (N := some 26) (v := ?_) (a' := ?_) #[true, true, true, true, false, false, false, false, false, false, false] rfl rfl (any_of HT_.out (by kernel_rfl)) (fun _ _ _ h => h) (Or.inl ⟨by rfl, ?_⟩) ?_ ?_
    rotate_left; (intro w'; go_simp; with_reducible rfl); rotate_left; (simp only [Act.put, List.setIfInBounds_toArray, List.set_cons_zero, List.set_cons_succ, i64_w, i32_w]; rfl)
    refine pure_ (i := 5) (N := some 28) (v := ?_) (a' := ?_) #[true, true, true, true, false, true, false, false, false, false, false] rfl rfl (any_of HT_.out (by kernel_rfl)) (fun _ _ _ h => h) (Or.inl ⟨by rfl, ?_⟩) ?_ ?_
    rotate_left; (intro w'; go_simp; with_reducible rfl); rotate_left; (simp only [Act.put, List.setIfInBounds_toArray, List.set_cons_zero, List.set_cons_succ, i64_w, i32_w]; rfl)
    refine take_ (i := 4) (N := some 27) (v := ?_) (a' := ?_) #[true, true, true, true, true, true, false, false, false, false, false] rfl rfl (take_ofW HT_.out HW_.out (by kernel_rfl)) (fun _ _ _ h => h) (Or.inl ⟨by rfl, ?_⟩) hHeld ?_ ?_
    rotate_left; (rintro w' ⟨s0, s1⟩; go_simp; with_reducible rfl); rotate_left; (simp only [Act.put, List.setIfInBounds_toArray, List.set_cons_zero, List.set_cons_succ, i64_w, i32_w]; rfl)
    refine take_ (i := 6) (N := some 29) (v := ?_) (a' := ?_) #[true, true, true, true, true, true, true, false, false, false, false] rfl rfl (take_ofW HT_.out HW_.out (by kernel_rfl)) (fun _ _ _ h => h) (Or.inl ⟨by rfl, ?_⟩) hHeld ?_ ?_
    rotate_left; (rintro w' ⟨s0, s1⟩; go_simp; with_reducible rfl); rotate_left; (simp only [Act.put, List.setIfInBounds_toArray, List.set_cons_zero, List.set_cons_succ, i64_w, i32_w]; rfl)
    refine take_ (i := 7) (N := some 30) (v := ?_) (a' := ?_) #[true, true, true, true, true, true, true, true, false, false, false] rfl rfl (take_ofW HT_.out HW_.out (by kernel_rfl)) (fun _ _ _ h => h) (Or.inl ⟨by rfl, ?_⟩) hHeld ?_ ?_
    rotate_left; (rintro w' ⟨s0, s1⟩; go_simp; with_reducible rfl); rotate_left; (simp only [Act.put, List.setIfInBounds_toArray, List.set_cons_zero, List.set_cons_succ, i64_w, i32_w]; rfl)
    refine one_ (i := 8) (N := some 31) #[true, true, true, true, true, true, true, true, true, false, false] rfl rfl (one_of HT_.out (by kernel_rfl)) (by decide) (fun K hK => ?_)
    refine goes_ Tryz.func24 (by kernel_rfl) rfl #[.pointer (some ⟨g, 0, none⟩), .int .i64 ((Srt.place L c : Nat) : Int)] (by rfl) rfl rfl (by simp only [List.map_toArray, List.map_cons, List.map_nil]; rfl) ?_
    with_reducible refine (level_calls T.sr HO.out.1 hpn hn HK.out).mono ?_
    rintro e W4 ⟨rfl, k4, rfl⟩
    refine ⟨_, rfl, ?_⟩
    replace T := T.drewN k4
    clear hHeld
    generalize W3.drewN k4 = W4 at T ⊢
    refine hK.out _ _ ⟨T.sr.c2, T.look HC.out⟩ (fun hHeld => ?_)
    clear hK K
    refine norm_ (a' := ?_) ?_ ?_
    rotate_left
    · show Act.put _ (some 31) _ = _
      simp only [Act.put, List.setIfInBounds_toArray, List.set_cons_zero, List.set_cons_succ, i64_w, i32_w]
      rfl
    refine pure_ (i := 9) (N := some 4) (v := ?_) (a' := ?_) #[true, true, true, true, true, true, true, true, true, true, false] rfl rfl (any_of HT_.out (by kernel_rfl)) (fun _ _ _ h => h) (Or.inl ⟨by rfl, ?_⟩) ?_ ?_
    rotate_left; (intro w'; go_simp; with_reducible rfl); rotate_left; (simp only [Act.put, List.setIfInBounds_toArray, List.set_cons_zero, List.set_cons_succ, i64_w, i32_w]; rfl)
    refine pure_ (i := 10) (N := some 5) (v := ?_) (a' := ?_) #[true, true, true, true, true, true, true, true, true, true, true] rfl rfl (any_of HT_.out (by kernel_rfl)) (fun _ _ _ h => h) (Or.inl ⟨by rfl, ?_⟩) ?_ ?_
    rotate_left; (intro w'; go_simp; with_reducible rfl); rotate_left; (simp only [Act.put, List.setIfInBounds_toArray, List.set_cons_zero, List.set_cons_succ, i64_w, i32_w]; rfl)
    refine done_ (done_of HT_.out (by kernel_rfl)) ?_
    go_wp2_with fail
    go_ret2
    exact ⟨by rw [hv.out]; rfl, T.below⟩

set_option maxHeartbeats 1000000 in
theorem LevelOf_spec (p a : List UInt8) (w : World) :
    Calls Tryz.prog 7 #[.string (B p), .string (B a)] w fun e w' => e = .returned (.tuple #[.int .i64 (levV p a).1, .bool (levV p a).2]) ∧ Below w.heap.size w w' := by
  have h := soLevel_calls p a w
  go_enter Tryz.func7, Tryz.ntmps7
  go_wp2_with fail
  refine h.mono ?_
  rintro e w1 ⟨rfl, hb⟩
  clear h
  go_wp2_with fail
  go_ret2
  exact ⟨rfl, hb⟩

end Go.Proofs.YtjgfgjhaghbehaaGreat.PFnExactLevelOf
