/- The closure of CycleNames: whether one comes to a sort that carries itself. And letters of a text that hold something. -/
import Derived.Test.YtonfbnbfbdcmhaaSortE
namespace Go.Proofs.Ytonfbnbfbdcmhaa
open Go.RowKit Go.Proofs.YtonfbnbfbdcmhaaW.PrintWords Go.Proofs.YtonfbnbfbdcmhaaW.PrintLast Go.Proofs.YtonfbnbfbdcmhaaW.PrintMore
set_option linter.unusedVariables false
set_option linter.unusedSimpArgs false

theorem sort_filter (p h : UInt8 → Bool) : sortL (fun c => decide (c ∈ sortL p) && h c) = (sortL p).filter h := by
  show (letsFrom 0).filter _ = ((letsFrom 0).filter p).filter h
  rw [List.filter_filter]
  refine List.filter_congr fun c hc => ?_
  have : decide (c ∈ sortL p) = p c := by
    rw [Bool.eq_iff_iff, decide_eq_true_eq]
    show c ∈ (letsFrom 0).filter p ↔ _
    rw [List.mem_filter]
    exact ⟨fun h => h.2, fun h => ⟨hc, h⟩⟩
  rw [this, Bool.and_comm]
theorem filter_take (L : List UInt8) (h : UInt8 → Bool) {j : Nat} (hj : j < L.length) : (L.take (j + 1)).filter h = (L.take j).filter h ++ (if h L[j] = true then [L[j]] else []) := by
  rw [List.take_succ_eq_append_getElem hj, List.filter_append]
  congr 1
  simp only [List.filter_cons, List.filter_nil]
set_option maxHeartbeats 4000000 in
theorem toRound_calls {w : World} {N g bx : Nat} {v1 v2 : Value} {ex : List Value} {s : Srt} (h : SrAt w N g v1 v2 ex s) (ho : s.Ok) {x : Nat} (hx : x < s.n) (hn : s.n ≤ 1000000) (hb : w.cell? ⟨bx, 0, none⟩ = some (.pointer (some ⟨g, 0, none⟩))) :
    Calls Try.prog 56 #[.int .i64 (x : Nat), .pointer (some ⟨bx, 0, none⟩)] w fun e w' => e = .returned (.bool (s.toRound x)) ∧ ∃ m, w' = w.drewN m := by
  obtain ⟨o1, cap1, hv1⟩ := h.r1.shape
  subst hv1
  have c0 := h.c0
  have hrx := ho.rlt x hx
  have HR := Lib.hid (root_calls h ho hx hn)
  have HS := Lib.hid h
  have HO := Lib.hid ho
  have HV : Hid (s.toRound x = (decide (0 ≤ s.loopC s.n (s.rt x)) && s.isRound (s.loopC s.n (s.rt x)).toNat)) := rfl
  clear h ho
  generalize s.rt x = r at *
  go_enter Try.func56, Try.ntmps56
  go_wp2_with fail
  refine HR.out.mono ?_
  rintro e w' ⟨rfl, rfl⟩
  clear HR
  go_wp2_with fail
  go_loopw [4, 13] (fun y i wr => ∃ (k : Nat) (v : Int), k ≤ s.n ∧ i = .int .i64 k ∧ y = .int .i64 v ∧ (-1 ≤ v ∧ v < s.n) ∧ Hid (s.loopC s.n r = s.loopC (s.n - k) v) ∧ ∃ m, wr = w'.drewN m) (fun _ i _ => s.n - (intOf i).toNat)
  case atStart => exact ⟨0, r, Nat.zero_le _, rfl, rfl, ⟨by omega, by omega⟩, rfl, 0, rfl⟩
  case round =>
    obtain ⟨k, v, hk, rfl, rfl, hv, he, m, rfl⟩ := hrel
    have d0 : (w'.drewN m).cell? ⟨bx, 0, none⟩ = some (.pointer (some ⟨g, 0, none⟩)) := hb
    by_cases hlt : k < s.n
    · have HE : Hid (s.loopC s.n r = if v < 0 ∨ s.isRound v.toNat = true then v else s.loopC (s.n - (k + 1)) (s.nxt v.toNat)) := by
        rw [Hid, he.out, show s.n - k = (s.n - (k + 1)) + 1 from by omega]; rfl
      by_cases h1 : v < 0
      · have HF : Hid (s.toRound x = false) := by rw [Hid, HV.out, HE.out, if_pos (.inl h1), decide_eq_false (by omega)]; rfl
        have h1b : ¬ 0 ≤ v := by omega
        go_wp2_with fail
        go_ret
        exact ⟨by rw [HF.out]; rfl, _, rfl⟩
      · obtain ⟨y, rfl⟩ : ∃ y : Nat, v = y := ⟨v.toNat, by omega⟩
        have hy : y < s.n := by omega
        have hr := round_drew HS.out HO.out hy hn m
        rcases hq : s.isRound y with _ | _
        · have HE2 : Hid (s.loopC s.n r = s.loopC (s.n - (k + 1)) (s.nxt y)) := by
            rw [Hid, HE.out, Int.toNat_natCast, if_neg (by rintro (q | q); exact h1 q; rw [hq] at q; cases q)]
          have HNX : Hid (∀ m, Calls Try.prog 58 #[.pointer (some ⟨g, 0, none⟩), .int .i64 (y : Nat)] (w'.drewN m) fun e w' => e = .returned (.int .i64 (s.nxt y)) ∧ ∃ k, w' = w'.drewN k) ∨ True := .inr trivial
          have HB2 := Lib.hid (HO.out.nxt_lt hy)
          rw [hq] at hr
          clear HE he hq HNX
          go_wp2_with fail
          refine hr.mono ?_
          rintro e w3 ⟨rfl, m3, rfl⟩
          have d1 : (w'.drewN m3).cell? ⟨bx, 0, none⟩ = some (.pointer (some ⟨g, 0, none⟩)) := hb
          have hnx := next_drew HS.out HO.out hy hn m3
          clear hr
          go_wp2_with fail
          refine hnx.mono ?_
          rintro e w4 ⟨rfl, m4, rfl⟩
          clear hnx
          go_wp2_with fail
          go_roundw
          case rel => exact ⟨k + 1, s.nxt y, by omega, by go_num, rfl, HB2.out, HE2, m4, rfl⟩
          case measure => simp [intOf]; omega
        · have HF : Hid (s.toRound x = true) := by rw [Hid, HV.out, HE.out, Int.toNat_natCast, if_pos (.inr hq), decide_eq_true (by omega), Int.toNat_natCast, hq]; rfl
          have HQ := Lib.hid hq
          have h0 : (0 : Int) ≤ (y : Nat) := by omega
          rw [hq] at hr
          clear HE he hq
          go_wp2_with fail
          refine hr.mono ?_
          rintro e w3 ⟨rfl, m3, rfl⟩
          have d1 : (w'.drewN m3).cell? ⟨bx, 0, none⟩ = some (.pointer (some ⟨g, 0, none⟩)) := hb
          have hr2 := round_drew HS.out HO.out hy hn m3
          rw [HQ.out] at hr2
          clear hr
          go_wp2_with fail
          refine hr2.mono ?_
          rintro e w4 ⟨rfl, m4, rfl⟩
          clear hr2
          go_wp2_with fail
          go_ret
          exact ⟨by rw [HF.out]; rfl, _, rfl⟩
    · have hkn : k = s.n := by omega
      have HE : Hid (s.loopC s.n r = v) := by rw [Hid, he.out, hkn, Nat.sub_self]; rfl
      by_cases h1 : v < 0
      · have HF : Hid (s.toRound x = false) := by rw [Hid, HV.out, HE.out, decide_eq_false (by omega)]; rfl
        have h1b : ¬ 0 ≤ v := by omega
        go_wp2_with fail
        go_ret
        exact ⟨by rw [HF.out]; rfl, _, rfl⟩
      · obtain ⟨y, rfl⟩ : ∃ y : Nat, v = y := ⟨v.toNat, by omega⟩
        have hy : y < s.n := by omega
        have h0 : (0 : Int) ≤ (y : Nat) := by omega
        have HF : Hid (s.toRound x = s.isRound y) := by rw [Hid, HV.out, HE.out, decide_eq_true h0, Int.toNat_natCast, Bool.true_and]
        have hr := round_drew HS.out HO.out hy hn m
        generalize s.isRound y = bb at hr HF
        clear HE he
        go_wp2_with fail
        refine hr.mono ?_
        rintro e w3 ⟨rfl, m3, rfl⟩
        clear hr
        go_wp2_with fail
        go_ret
        exact ⟨by rw [HF.out]; rfl, _, rfl⟩
structure SFB (w0 W : World) (g m N : Nat) (v1 v2 : Value) (s : Srt) (L : List UInt8) (bx : Nat) : Prop where
  sf : SF w0 W g m N v1 v2 s L
  box : ∃ t, W.heap[bx]? = some (.cells #[.pointer (some ⟨g, 0, none⟩)] t (0, 0))
section
variable {w0 W W' : World} {g m N bx : Nat} {v1 v2 : Value} {s : Srt} {L : List UInt8}
theorem SFB.later (h : SFB w0 W g m N v1 v2 s L bx) (hb : Below W.heap.size W W') : SFB w0 W' g m N v1 v2 s L bx :=
  ⟨h.sf.later hb, by obtain ⟨t, h⟩ := h.box; exact ⟨t, blk_below h hb⟩⟩
theorem SFB.drewN (h : SFB w0 W g m N v1 v2 s L bx) (k : Nat) : SFB w0 (W.drewN k) g m N v1 v2 s L bx := ⟨h.sf.drewN k, h.box⟩
theorem SFB.drew (h : SFB w0 W g m N v1 v2 s L bx) : SFB w0 W.drew g m N v1 v2 s L bx := h.drewN 1
theorem SFB.far {W3 : World} {bo : Nat} (h : SFB w0 W g m N v1 v2 s L bx) (k : SFB w0 W3 g m N v1 v2 s L bx) (hb : W3.heap.size ≤ bo) (i : Nat) (x : Value) : SFB w0 (W.setCell ⟨bo, i, none⟩ x) g m N v1 v2 s L bx := by
  obtain ⟨⟨a, b, c⟩, t, d⟩ := h
  obtain ⟨⟨a3, b3, c3⟩, t3, d3⟩ := k
  have h1 := a3.gl
  have h2 := b3.lt
  have h3 := blk_lt d3
  have h4 := c3.size
  have hf : ∀ j, j ≠ bo → (W.setCell ⟨bo, i, none⟩ x).heap[j]? = W.heap[j]? := fun j hj => Below.heap_setCell W _ _ j (by simpa using hj)
  exact ⟨⟨a.far (by omega) (fun q => by have := (a3.r1.own q).2; omega) (fun q => by have := (a3.r2.own q).2; omega) _ _, b.keep (hf _ (by omega)), c.setCell (by show w0.heap.size ≤ bo; omega) _⟩, t, (hf _ (by omega)).trans d⟩
theorem SFB.cell (h : SFB w0 W g m N v1 v2 s L bx) : W.cell? ⟨bx, 0, none⟩ = some (.pointer (some ⟨g, 0, none⟩)) := by obtain ⟨t, h⟩ := h.box; exact blk_cell h 0
end
end Go.Proofs.Ytonfbnbfbdcmhaa
