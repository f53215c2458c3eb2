/- The law FnExactCanonicalNames, walked: the program's answer is the reference's. -/
import Derived.Test.YtfcadppidgkoaaaCnFnExactRenameFree
import Derived.Test.YtfcadppidgkoaaaIfFnExactRenameFree
import Derived.Test.YtfcadppidgkoaaaCanX
namespace Go.Proofs.Ytfcadppidgkoaaa.PFnExactCanonicalNames
open Go.RowKit Go.Proofs.YtfcadppidgkoaaaW.PrintWords Go.Proofs.YtfcadppidgkoaaaW.PrintLast Go.Proofs.YtfcadppidgkoaaaW.PrintMore Go.Proofs.Ytfcadppidgkoaaa.Pterm Go.Proofs.Ytfcadppidgkoaaa.PFnExactRenameFree
set_option linter.unusedVariables false
set_option linter.unusedSimpArgs false

theorem fr_let : ∀ {t : Tm}, Wf isLet t → ∀ c, t.fr c = true → isLet c = true
  | .leaf _ _ _, _, c, h => by simp [Tm.fr, noS] at h
  | .un k a b t, hw, c, h => by
    have ih := fr_let hw.2 c
    have hab : (k = 33 ∨ k = 61 → isLet a = true ∧ isLet b = true) ∧ (k = 63 → isLet a = true) := by
      rcases hw.1 with ⟨h1, h2, h3⟩ | ⟨h1, h2, h3⟩ | ⟨h1, h2, h3⟩
      · exact ⟨fun _ => ⟨h2, h3⟩, fun _ => h2⟩
      · subst h1; exact ⟨fun q => absurd q (by decide), fun q => absurd q (by decide)⟩
      · rcases h1 with rfl | rfl <;> exact ⟨fun q => absurd q (by decide), fun q => absurd q (by decide)⟩
    simp only [Tm.fr] at h
    split at h
    · rename_i hk
      obtain ⟨h1, h2⟩ := hab.1 hk
      simp only [orS, eqS, Bool.or_eq_true, beq_iff_eq] at h
      rcases h with h | rfl | rfl
      · exact ih h
      · exact h1
      · exact h2
    split at h
    · rename_i hk
      have h1 := hab.2 hk
      simp only [orS, minusS, eqS, Bool.or_eq_true, Bool.and_eq_true, beq_iff_eq] at h
      rcases h with h | rfl
      · exact ih h.1
      · exact h1
    split at h
    · simp only [minusS, Bool.and_eq_true] at h; exact ih h.1
    · exact ih h
  | .bin _ _ _ t u, hw, c, h => by
    simp only [Tm.fr, orS, Bool.or_eq_true] at h
    rcases h with h | h
    · exact fr_let hw.2.2.2.1 c h
    · exact fr_let hw.2.2.2.2 c h
theorem let_128 {c : UInt8} (h : isLet c = true) : ¬ 128 ≤ vl c := by simp [isLet] at h; omega
theorem can_val {t : Tm} (hw : Wf isLet t) (hs : t.size ≤ 60) (hl : t.text.length ≤ 300) : canO t = if (canS 100 t (sortL t.fr)).2.contains 0 = true then (B [], false) else (if readOk (canS 100 t (sortL t.fr)).1.text = true then (B (canS 100 t (sortL t.fr)).1.text, true) else (B [], false)) := by
  have h := can_same 100 t (sortL t.fr) t.fr [] (by omega) (fun c hc hv => absurd hv (let_128 (fr_let hw c hc))) (by simp only [List.length_nil]; omega) (fun c hc => by
    rw [Bool.eq_iff_iff]
    unfold inS
    rw [List.contains_iff_mem, sort_mem]
    exact ⟨fun h => h.2, fun h => ⟨hc, h⟩⟩)
  unfold canO
  cases hr : canI t id t.fr with
  | none =>
    rw [hr] at h
    simp only at h
    rw [if_pos (List.contains_iff_mem.mpr h)]
  | some r =>
    rw [hr] at h
    obtain ⟨h1, _, h3⟩ := h
    have h0 : (0 : UInt8) ∉ sortL t.fr := fun q => by have := (sort_mem.mp q).1; revert this; decide
    rw [if_neg (fun q => h3 h0 (List.contains_iff_mem.mp q)), h1]
    obtain ⟨g1, g2, g3⟩ := canI_wf t id t.fr r hw (fun c hc => hc) hr
    rw [if_pos]
    rw [read_text g1, g2, g3]
    simp only [Bool.and_eq_true, decide_eq_true_eq]
    exact ⟨hl, hs⟩

set_option maxHeartbeats 2000000 in
set_option maxRecDepth 100000 in
theorem spec_calls (l : List UInt8) (w : World) : Calls Try.prog 42 #[.string (B l)] w fun e w' => e = .returned (.tuple #[.string (canV l).1, .bool (canV l).2]) ∧ Below w.heap.size w w' := by
  have HGO := Lib.hid (good_f l 3000 (by omega))
  rcases hok : readOk l with _ | _
  · have hv : Hid (canV l = (B [], false)) := by simp [Hid, canV, hok]
    rw [hok] at HGO
    clear hok
    go_enter Try.func42, Try.ntmps42
    go_wp2_with fail
    refine (spec_tmGood.calls 3000 _ _ _ HGO.out).mono ?_
    rintro e w1 ⟨rfl, hb1⟩
    have HB1 := Lib.hid hb1
    clear hb1
    go_wp2_with fail
    go_ret2
    exact ⟨by rw [hv.out]; rfl, HB1.out⟩
  rw [hok] at HGO
  obtain ⟨g1, g2, g3, g4⟩ := read_good hok
  have hwn := Wf.names (fun c => let_name) g3
  have htl : (parsed l).1.text.length ≤ 300 := by rw [← g2]; exact g1
  have hv0 : canV l = canO (parsed l).1 := by simp [canV, hok]
  rw [can_val g3 g4 htl] at hv0
  have hfr := frees_text (parsed l).1 3000 g3 (by omega) (by omega)
  rw [← g2] at hfr
  have hsl := sort_len (parsed l).1.fr
  obtain ⟨_, _, _, hrl⟩ := canS_wf freshB_name 100 (parsed l).1 (sortL (parsed l).1.fr) hwn
  have hcn := fun W => cn_any 100 (by omega) (parsed l).1 (sortL (parsed l).1.fr) W [] (by omega) hwn (by omega) (by omega) (fun c hc hv => absurd hv (let_128 (fr_let g3 c hc))) (by simp only [List.length_nil]; omega)
  rw [← g2] at hcn
  have HFR := Lib.hid hfr
  generalize canS 100 (parsed l).1 (sortL (parsed l).1.fr) = r at hcn hv0 hrl
  have hin := tmIn_f r.2 (by omega) 0 3000 (by omega)
  have HIF := Lib.hid (if_f r.1.text 3000 (by omega))
  have HCN := Lib.hid hcn
  have HR : Hid (r.2.length ≤ 1000) := by show _ ≤ _; omega
  generalize sortL (parsed l).1.fr = s at HFR HCN
  clear hok g1 g2 g3 g4 hwn htl hfr hsl hrl hcn
  generalize hV : canV l = V at hv0 ⊢
  clear hV
  rcases hz : r.2.contains 0 with _ | _
  · rw [hz] at hin hv0
    rw [if_neg (by decide)] at hv0
    rw [← hv0] at HIF
    replace HIF : Hid (spec_tmIf.f 3000 (B r.1.text) = some (V.1, V.2)) := HIF.out
    have HIN : Hid (spec_tmIn.f 3000 (B r.2) 0 = some false) := hin
    clear hz hv0 hin
    go_enter Try.func42, Try.ntmps42
    go_wp2_with fail
    refine (spec_tmGood.calls 3000 _ _ _ HGO.out).mono ?_
    rintro e w1 ⟨rfl, hb1⟩
    go_wp2_with fail
    refine (spec_tmFree.calls 3000 _ _ _ HFR.out).mono ?_
    rintro e w2 ⟨rfl, hb2⟩
    go_wp2_with fail
    refine (HCN.out _).mono ?_
    rintro e w3 ⟨rfl, hb3⟩
    go_wp2_with fail
    refine (spec_tmIn.calls 3000 _ _ _ _ HIN.out).mono ?_
    rintro e w4 ⟨rfl, hd4⟩
    go_wp2_with fail
    refine (spec_tmIf.calls 3000 _ _ _ _ HIF.out).mono ?_
    rintro e w5 ⟨rfl, hb5⟩
    have HB5 := Lib.hid (below_step (below_step (below_step (below_step hb1 hb2) hb3) hd4.below) hb5)
    clear hb1 hb2 hb3 hd4 hb5
    go_wp2_with fail
    go_ret2
    exact ⟨rfl, HB5.out⟩
  · rw [hz] at hin hv0
    rw [if_pos rfl] at hv0
    have hv := Lib.hid hv0
    have HIN : Hid (spec_tmIn.f 3000 (B r.2) 0 = some true) := hin
    clear hz hv0 hin HIF
    go_enter Try.func42, Try.ntmps42
    go_wp2_with fail
    refine (spec_tmGood.calls 3000 _ _ _ HGO.out).mono ?_
    rintro e w1 ⟨rfl, hb1⟩
    go_wp2_with fail
    refine (spec_tmFree.calls 3000 _ _ _ HFR.out).mono ?_
    rintro e w2 ⟨rfl, hb2⟩
    go_wp2_with fail
    refine (HCN.out _).mono ?_
    rintro e w3 ⟨rfl, hb3⟩
    go_wp2_with fail
    refine (spec_tmIn.calls 3000 _ _ _ _ HIN.out).mono ?_
    rintro e w4 ⟨rfl, hd4⟩
    have HB5 := Lib.hid (below_step (below_step (below_step hb1 hb2) hb3) hd4.below)
    clear hb1 hb2 hb3 hd4
    go_wp2_with fail
    go_ret2
    exact ⟨by rw [hv.out]; rfl, HB5.out⟩

set_option maxHeartbeats 1000000 in
theorem law_walk (s : ByteArray) (w : World) (hs : s.size ≤ 140737488351232) :
    Calls Try.prog 14 #[.string s] w fun e w' => e = .returned (.bool true) ∧ Below w.heap.size w w' := by
  obtain ⟨a, rfl⟩ := B_of s
  have hz : (B a).size = a.length := B_size a
  rw [hz] at hs
  by_cases hbig : a.length > 1048576
  · go_enter Try.func14, Try.ntmps14
    go_wp2_with fail
    go_ret
    exact ⟨rfl, Below.refl _ _⟩
  · go_enter Try.func14, Try.ntmps14
    go_wp2_with fail
    refine (spec_calls a _).mono ?_
    rintro e w1 ⟨rfl, hb1⟩
    go_wp2_with fail
    refine (CanonicalNames_calls a _ hs).mono ?_
    rintro e w2 ⟨rfl, hb⟩
    replace hb := below_then hb1 hb1.size hb
    clear hb1
    go_wp2_with fail
    go_ret
    exact ⟨rfl, hb⟩

end Go.Proofs.Ytfcadppidgkoaaa.PFnExactCanonicalNames
