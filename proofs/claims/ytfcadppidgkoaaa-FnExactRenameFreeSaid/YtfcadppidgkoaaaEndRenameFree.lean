/- The law FnExactRenameFree, walked: the program's answer is the reference's. -/
import Derived.Test.YtfcadppidgkoaaaRnFnExactRenameFree
import Derived.Test.YtfcadppidgkoaaaOneFnExactRenameFree
import Derived.Test.YtfcadppidgkoaaaRenJ
namespace Go.Proofs.Ytfcadppidgkoaaa.PFnExactRenameFree
open Go.RowKit Go.Proofs.YtfcadppidgkoaaaW.PrintWords Go.Proofs.YtfcadppidgkoaaaW.PrintLast Go.Proofs.YtfcadppidgkoaaaW.PrintMore Go.Proofs.Ytfcadppidgkoaaa.Pterm
set_option linter.unusedVariables false
set_option linter.unusedSimpArgs false

theorem fr_let : ∀ {t : Tm}, Wf isLet t → ∀ c, t.fr c = true → isLet c = true
  | .leaf _ _ _, _, c, h => by simp [Tm.fr, noS] at h
  | .un k a b t, hw, c, h => by
    have ih := fr_let hw.2 c
    have hab : (k = 33 ∨ k = 61 → isLet a = true ∧ isLet b = true) ∧ (k = 63 → isLet a = true) := by
      rcases hw.1 with ⟨h1, h2, h3⟩ | ⟨h1, h2, h3⟩ | ⟨h1, h2, h3⟩
      · exact ⟨fun _ => ⟨h2, h3⟩, fun _ => h2⟩
      · subst h1; exact ⟨fun q => absurd q (by decide), fun q => absurd q (by decide)⟩
      · rcases h1 with rfl | rfl <;> exact ⟨fun q => absurd q (by decide), fun q => absurd q (by decide)⟩
    simp only [Tm.fr] at h
    split at h
    · rename_i hk
      obtain ⟨h1, h2⟩ := hab.1 hk
      simp only [orS, eqS, Bool.or_eq_true, beq_iff_eq] at h
      rcases h with h | rfl | rfl
      · exact ih h
      · exact h1
      · exact h2
    split at h
    · rename_i hk
      have h1 := hab.2 hk
      simp only [orS, minusS, eqS, Bool.or_eq_true, Bool.and_eq_true, beq_iff_eq] at h
      rcases h with h | rfl
      · exact ih h.1
      · exact h1
    split at h
    · simp only [minusS, Bool.and_eq_true] at h; exact ih h.1
    · exact ih h
  | .bin _ _ _ t u, hw, c, h => by
    simp only [Tm.fr, orS, Bool.or_eq_true] at h
    rcases h with h | h
    · exact fr_let hw.2.2.2.1 c h
    · exact fr_let hw.2.2.2.2 c h
theorem let_128 {c : UInt8} (h : isLet c = true) : ¬ 128 ≤ vl c := by simp [isLet] at h; omega
theorem enough_let {t : Tm} {c d : UInt8} (hw : Wf isLet t) (hs : t.size ≤ 63) (hc : isLet c = true) (hd : isLet d = true) : Enough t c d :=
  ⟨[], fun e he hv => by
    rcases tkS_or he with h | rfl | rfl
    · exact absurd hv (let_128 (fr_let hw e h))
    · exact absurd hv (let_128 hc)
    · exact absurd hv (let_128 hd), by simpa using hs⟩
theorem read_low {l : List UInt8} (h : readOk l = true) : ∀ c, c ∈ l → ¬ 128 ≤ vl c := fun c hc hv => by
  obtain ⟨_, h1, h2, _⟩ := read_good h
  have := text_small h2
  rw [← h1, List.all_eq_true] at this
  have := this c hc
  simp [smallB] at this
  omega
theorem ren_val {t : Tm} {c d : UInt8} (hc : isLet c = true) (hd : isLet d = true) : (if readOk (renS 100 t c d).text = true then (B (renS 100 t c d).text, true) else (B [], false)) = match renI 100 t c d with | some u => tolT u | none => (B [], false) := by
  have h := ren_same 100 t c d hc hd
  cases hr : renI 100 t c d with
  | some u => rw [hr] at h; simp only at h; rw [h]; rfl
  | none =>
    rw [hr] at h
    simp only at h
    obtain ⟨e, he, hv⟩ := high_text h
    rw [if_neg (fun q => read_low q e he hv)]

set_option maxHeartbeats 2000000 in
set_option maxRecDepth 100000 in
theorem spec_calls (l o m : List UInt8) (w : World) : Calls Try.prog 40 #[.string (B l), .string (B o), .string (B m)] w fun e w' => e = .returned (.tuple #[.string (renV l o m).1, .bool (renV l o m).2]) ∧ Below w.heap.size w w' := by
  have HGO := Lib.hid (good_f l 3000 (by omega))
  have HO1 := Lib.hid (one_f o)
  have HO2 := Lib.hid (one_f m)
  rcases hok : readOk l with _ | _
  · have hv : Hid (renV l o m = (B [], false)) := by simp [Hid, renV, hok]
    rw [hok] at HGO
    clear hok
    go_enter Try.func40, Try.ntmps40
    go_wp2_with fail
    refine (spec_tmGood.calls 3000 _ _ _ HGO.out).mono ?_
    rintro e w1 ⟨rfl, hb1⟩
    have HB1 := Lib.hid hb1
    clear hb1
    go_wp2_with fail
    go_ret2
    exact ⟨by rw [hv.out]; rfl, HB1.out⟩
  rw [hok] at HGO
  have hv0 : Hid (renV l o m = if oneB o = true ∧ oneB m = true then renO l (o.headD 0) (m.headD 0) else (B [], false)) := by simp [Hid, renV, hok]
  have HG := Lib.hid (read_good hok)
  clear hok
  rcases h1 : oneB o with _ | _
  · rw [h1] at HO1
    have hv : Hid (renV l o m = (B [], false)) := by rw [Hid, hv0.out, h1]; rfl
    clear h1 hv0
    go_enter Try.func40, Try.ntmps40
    go_wp2_with fail
    refine (spec_tmGood.calls 3000 _ _ _ HGO.out).mono ?_
    rintro e w1 ⟨rfl, hb1⟩
    go_wp2_with fail
    refine (spec_tmOne.calls _ _ _ HO1.out).mono ?_
    rintro e w2 ⟨rfl, hd2⟩
    have HB1 := Lib.hid (below_step hb1 hd2.below)
    clear hb1 hd2
    go_wp2_with fail
    go_ret2
    exact ⟨by rw [hv.out]; rfl, HB1.out⟩
  rw [h1] at HO1
  rcases h2 : oneB m with _ | _
  · rw [h2] at HO2
    have hv : Hid (renV l o m = (B [], false)) := by rw [Hid, hv0.out, h2]; simp
    clear h1 h2 hv0
    go_enter Try.func40, Try.ntmps40
    go_wp2_with fail
    refine (spec_tmGood.calls 3000 _ _ _ HGO.out).mono ?_
    rintro e w1 ⟨rfl, hb1⟩
    go_wp2_with fail
    refine (spec_tmOne.calls _ _ _ HO1.out).mono ?_
    rintro e w2 ⟨rfl, hd2⟩
    go_wp2_with fail
    refine (spec_tmOne.calls _ _ _ HO2.out).mono ?_
    rintro e w3 ⟨rfl, hd3⟩
    have HB1 := Lib.hid (below_step (below_step hb1 hd2.below) hd3.below)
    clear hb1 hd2 hd3
    go_wp2_with fail
    go_ret2
    exact ⟨by rw [hv.out]; rfl, HB1.out⟩
  rw [h2] at HO2
  obtain ⟨c, rfl, hc⟩ := oneB_iff.mp h1
  obtain ⟨d, rfl, hd⟩ := oneB_iff.mp h2
  have hv : Hid (renV l [c] [d] = if readOk (renS 100 (parsed l).1 c d).text = true then (B (renS 100 (parsed l).1 c d).text, true) else (B [], false)) := by
    rw [Hid, hv0.out, if_pos ⟨h1, h2⟩, ren_val hc hd]; rfl
  have hbc := byte_of [c] 0 (by simp)
  have hbd := byte_of [d] 0 (by simp)
  have hz1 : (B [c]).size = 1 := B_size [c]
  have hz2 : (B [d]).size = 1 := B_size [d]
  have HRN : Hid (∀ W, Calls Try.prog 86 #[.string (B l), .int .u8 (vl c), .int .u8 (vl d)] W (RnPost W (renS 100 (parsed l).1 c d).text)) := fun W => by
    obtain ⟨g1, g2, g3, g4⟩ := HG.out
    have := rn_any 100 (by omega) (parsed l).1 c d W (by omega) (Wf.names (fun c => let_name) g3) (by rw [← g2]; omega) (let_name hc) (let_name hd) (enough_let g3 (by omega) hc hd)
    rwa [← g2] at this
  have HIF := Lib.hid (if_f (renS 100 (parsed l).1 c d).text 3000 (by omega))
  generalize renS 100 (parsed l).1 c d = u at hv HRN HIF
  generalize hV : renV l [c] [d] = V at hv ⊢
  rw [← hv.out] at HIF
  replace HIF : Hid (spec_tmIf.f 3000 (B u.text) = some (V.1, V.2)) := HIF.out
  clear h1 h2 hv0 hc hd hV hv
  go_enter Try.func40, Try.ntmps40
  go_wp2_with fail
  refine (spec_tmGood.calls 3000 _ _ _ HGO.out).mono ?_
  rintro e w1 ⟨rfl, hb1⟩
  go_wp2_with fail
  refine (spec_tmOne.calls _ _ _ HO1.out).mono ?_
  rintro e w2 ⟨rfl, hd2⟩
  go_wp2_with fail
  refine (spec_tmOne.calls _ _ _ HO2.out).mono ?_
  rintro e w3 ⟨rfl, hd3⟩
  have HB1 := Lib.hid (below_step (below_step hb1 hd2.below) hd3.below)
  clear hb1 hd2 hd3
  go_wp2_with fail
  go_region_held3 (fun _ => True) (trivial)
    (first | (go_at_call 86; refine (HRN.out _).mono ?_; rintro e w4 ⟨rfl, hb4⟩) | (go_at_call 65; refine (spec_tmIf.calls 3000 _ _ _ _ HIF.out).mono ?_; rintro e w5 ⟨rfl, hb5⟩))
  all_goals
    have HB5 : Hid (Below w.heap.size w w5) := below_step (below_step HB1.out ⟨hb4.os, hb4.tape, hb4.output, hb4.size, hb4.block⟩) hb5
    clear hb4 hb5
    go_wp2_with fail
    go_ret2
    exact ⟨rfl, HB5.out⟩

set_option maxHeartbeats 1000000 in
theorem law_walk (s t u : ByteArray) (w : World) (hs : s.size ≤ 140737488351232) (ht : t.size ≤ 140737488351232) (hu : u.size ≤ 140737488351232) :
    Calls Try.prog 13 #[.string s, .string t, .string u] w fun e w' => e = .returned (.bool true) ∧ Below w.heap.size w w' := by
  obtain ⟨a, rfl⟩ := B_of s
  obtain ⟨x, rfl⟩ := B_of t
  obtain ⟨p, rfl⟩ := B_of u
  have hz : (B a).size = a.length := B_size a
  have hz2 : (B x).size = x.length := B_size x
  have hz3 : (B p).size = p.length := B_size p
  rw [hz] at hs
  rw [hz2] at ht
  rw [hz3] at hu
  by_cases hbig : a.length > 1048576
  · go_enter Try.func13, Try.ntmps13
    go_wp2_with fail
    go_ret
    exact ⟨rfl, Below.refl _ _⟩
  by_cases hbig2 : x.length > 1048576
  · go_enter Try.func13, Try.ntmps13
    go_wp2_with fail
    go_ret
    exact ⟨rfl, Below.refl _ _⟩
  by_cases hbig3 : p.length > 1048576
  · go_enter Try.func13, Try.ntmps13
    go_wp2_with fail
    go_ret
    exact ⟨rfl, Below.refl _ _⟩
  · go_enter Try.func13, Try.ntmps13
    go_wp2_with fail
    refine (spec_calls a x p _).mono ?_
    rintro e w1 ⟨rfl, hb1⟩
    go_wp2_with fail
    refine (RenameFree_calls a x p _ hs ht hu).mono ?_
    rintro e w2 ⟨rfl, hb⟩
    replace hb := below_then hb1 hb1.size hb
    clear hb1
    go_wp2_with fail
    go_ret
    exact ⟨rfl, hb⟩

end Go.Proofs.Ytfcadppidgkoaaa.PFnExactRenameFree
