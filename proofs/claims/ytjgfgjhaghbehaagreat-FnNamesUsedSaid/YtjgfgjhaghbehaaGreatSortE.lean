/- What the ends about sorts share: a name's place, the sorts of a process, the reference's soLevel. -/
import Derived.Test.YtjgfgjhaghbehaaGreatRSorts
import Derived.Test.YtjgfgjhaghbehaaGreatPlace2soPlace
namespace Go.Proofs.YtjgfgjhaghbehaaGreat.Rf
open Go.RowKit Go.Proofs.YtjgfgjhaghbehaaGreatW.PrintWords Go.Proofs.YtjgfgjhaghbehaaGreatW.PrintLast Go.Proofs.YtjgfgjhaghbehaaGreatW.PrintMore Go.Proofs.YtjgfgjhaghbehaaGreat.PsoPlace
set_option linter.unusedVariables false
set_option linter.unusedSimpArgs false

theorem idx_place {c : UInt8} : ∀ {l : List UInt8}, c ∈ l → idxL c l = some (Srt.place l c)
  | [], h => by simp at h
  | d :: l, h => by
    unfold idxL Srt.place
    by_cases e : d = c
    · rw [if_pos e, if_pos e.symm]
    · have hm : c ∈ l := by rcases List.mem_cons.mp h with q | q; exact absurd q.symm e; exact q
      rw [if_neg e, if_neg (fun q => e q.symm), if_pos hm, idx_place hm]; rfl
theorem with_name {p a : List UInt8} (h : withB p [a] = true) : readOk p = true ∧ ∃ c, a = [c] ∧ isLet c = true ∧ c ∈ sortL (parsed p).1.fr ∧ placeV p a = Srt.place (sortL (parsed p).1.fr) c ∧ Srt.place (sortL (parsed p).1.fr) c < (Srt.of (parsed p).1).n := by
  have h0 := h
  simp only [withB, freeB, List.all_cons, List.all_nil, Bool.and_true, Bool.and_eq_true] at h
  obtain ⟨c, rfl, hc⟩ := oneB_iff.mp h.2.1
  have hm : c ∈ sortL (parsed p).1.fr := sort_mem.mpr ⟨hc, h.2.2⟩
  refine ⟨h.1, c, rfl, hc, hm, ?_, ?_⟩
  · unfold placeV
    rw [if_pos h0]
    show (idxL c _).getD 0 = _
    rw [idx_place hm]; rfl
  · have h1 := Srt.place_lt hm
    have h2 := (Srt.of_ok (read_good h.1).2.2.1).2
    omega
theorem rsof_read {p : List UInt8} (h : readOk p = true) (W : World) : Calls Tryz.prog 32 #[.string (B p)] W fun e w' => ∃ g N v1 v2, e = .returned (.pointer (some ⟨g, 0, none⟩)) ∧ SrAt w' N g v1 v2 [] (Srt.of (parsed p).1) ∧ Below W.heap.size W w' ∧ W.heap.size ≤ g ∧ N ≤ w'.heap.size := by
  obtain ⟨g1, g2, g3, g4⟩ := read_good h
  have := rsof_calls (parsed p).1 W g3 (by omega) (by rw [← g2]; omega)
  rw [← g2] at this
  exact this
def levV (p a : List UInt8) : Int × Bool := if withB p [a] = true ∧ (Srt.of (parsed p).1).canBe = true then ((((((Srt.of (parsed p).1).lvl (placeV p a)).getD 0 : Nat) : Int)), true) else (0, false)
theorem lev_some {s : Srt} (ho : s.Ok) (h : s.canBe = true) {x : Nat} (hx : x < s.n) : ∃ k, s.lvl x = some k ∧ k ≤ s.n := by
  rw [ho.can_able] at h
  unfold Srt.able at h
  rw [List.all_eq_true] at h
  have := h x (List.mem_range.mpr hx)
  obtain ⟨k, hk⟩ := Option.isSome_iff_exists.mp this
  exact ⟨k, hk, (ho.lvl_some hk).1⟩
set_option maxHeartbeats 2000000 in
theorem soLevel_calls (p a : List UInt8) (w : World) :
    Calls Tryz.prog 25 #[.string (B p), .string (B a)] w fun e w' => e = .returned (.tuple #[.int .i64 (levV p a).1, .bool (levV p a).2]) ∧ Below w.heap.size w w' := by
  have hpl := place_f p a
  rcases hok : withB p [a] with _ | _
  · have hv : Hid (levV p a = (0, false)) := by simp [Hid, levV, hok]
    rw [hok] at hpl
    clear hok
    go_enter Tryz.func25, Tryz.ntmps25
    go_wp2_with fail
    refine (spec_soPlace.calls 4000 (B p) (B a) _ _ _ hpl).mono ?_
    rintro e w1 ⟨rfl, hb⟩
    clear hpl
    go_wp2_with fail
    go_ret2
    exact ⟨by rw [hv.out]; rfl, hb⟩
  · obtain ⟨hr, c, rfl, hc, hm, hpv, hpn⟩ := with_name hok
    have HS := Lib.hid (rsof_read hr)
    have HO := Lib.hid (Srt.of_ok (read_good hr).2.2.1)
    have HV : Hid (levV p [c] = if (Srt.of (parsed p).1).canBe = true then ((((((Srt.of (parsed p).1).lvl (placeV p [c])).getD 0 : Nat) : Int)), true) else (0, false)) := by
      rw [Hid]; unfold levV; simp only [hok, true_and]
    rw [hok] at hpl
    rw [← hpv] at hpn
    generalize placeV p [c] = x at hpl hpn HV
    generalize Srt.of (parsed p).1 = s at hpn HV HO HS
    have hn : s.n ≤ 1000000 := by have := HO.out.2; have := (read_good hr).2.2.2; omega
    clear hok hr hc hm hpv
    go_enter Tryz.func25, Tryz.ntmps25
    go_wp2_with fail
    refine (spec_soPlace.calls 4000 (B p) (B [c]) _ _ _ hpl).mono ?_
    rintro e w1 ⟨rfl, hb⟩
    have HB := Lib.hid hb
    clear hpl hb
    go_wp2_with fail
    refine (HS.out _).mono ?_
    rintro e w2 ⟨g, N, v1, v2, rfl, hs, hb2, hg, hN⟩
    have hcb := able_calls hs HO.out.1 hn
    rw [← HO.out.1.can_able] at hcb
    have hlv := level_calls hs HO.out.1 hpn hn
    have HB2 := Lib.hid (below_then HB.out HB.out.size hb2)
    clear hs hb2 hg hN
    rcases hcan : s.canBe with _ | _
    · have hv : Hid (levV p [c] = (0, false)) := by rw [Hid, HV.out, if_neg (by rw [hcan]; decide)]
      rw [hcan] at hcb
      clear hcan hlv
      go_wp2_with fail
      refine hcb.mono ?_
      rintro e w3 ⟨rfl, rfl⟩
      clear hcb
      go_wp2_with fail
      go_ret2
      exact ⟨by rw [hv.out]; rfl, HB2.out⟩
    · obtain ⟨k, hk, hkn⟩ := lev_some HO.out.1 hcan hpn
      have hv : Hid (levV p [c] = (((k : Nat) : Int), true)) := by rw [Hid, HV.out, if_pos hcan, hk]; rfl
      rw [hcan] at hcb
      rw [hk] at hlv
      simp only [lvlV] at hlv
      clear hcan hk
      go_wp2_with fail
      refine hcb.mono ?_
      rintro e w3 ⟨rfl, rfl⟩
      clear hcb
      go_wp2_with fail
      refine hlv.mono ?_
      rintro e w4 ⟨rfl, rfl⟩
      clear hlv
      go_wp2_with fail
      go_ret2
      exact ⟨by rw [hv.out]; rfl, HB2.out⟩
end Go.Proofs.YtjgfgjhaghbehaaGreat.Rf
namespace Go.Proofs.YtjgfgjhaghbehaaGreat
open Go.RowKit Go.Proofs.YtjgfgjhaghbehaaGreatW.PrintWords Go.Proofs.YtjgfgjhaghbehaaGreatW.PrintMore
set_option linter.unusedVariables false
structure SF (w0 W : World) (g m N : Nat) (v1 v2 : Value) (s : Srt) (L : List UInt8) : Prop where
  sr : SrAt W N g v1 v2 [.map (some m)] s
  mp : FreeAt W m 26 L L
  below : Below w0.heap.size w0 W
section
variable {w0 W W' : World} {g m N : Nat} {v1 v2 : Value} {s : Srt} {L : List UInt8}
theorem SF.later (h : SF w0 W g m N v1 v2 s L) (hb : Below W.heap.size W W') : SF w0 W' g m N v1 v2 s L :=
  ⟨h.sr.below hb, h.mp.keep (hb.block _ h.mp.lt), below_then h.below h.below.size hb⟩
theorem SF.drewN (h : SF w0 W g m N v1 v2 s L) (k : Nat) : SF w0 (W.drewN k) g m N v1 v2 s L := ⟨h.sr.drewN k, h.mp.keep rfl, pw_below_drewN h.below k⟩
theorem SF.drew (h : SF w0 W g m N v1 v2 s L) : SF w0 W.drew g m N v1 v2 s L := h.drewN 1
theorem SF.look (h : SF w0 W g m N v1 v2 s L) {c : UInt8} (hc : c ∈ L) : (Instr.lookup 48 (.map (some m)) (.int .u8 (vl c)) false).run Tryz.prog W = .ok (.int .i64 ((Srt.place L c : Nat) : Int)) W := h.mp.look hc _ rfl
end
theorem sortsOf_read {p : List UInt8} (h : readOk p = true) {w W : World} {b : Nat} (hb : Below w.heap.size w W) (hl : Lies W w.heap.size (parsed p).1 b) :
    Calls Tryz.prog 22 #[.pointer (some ⟨b, 0, none⟩)] W fun e w' => ∃ g m N v1 v2, e = .returned (.pointer (some ⟨g, 0, none⟩)) ∧ SF w w' g m N v1 v2 (Srt.of (parsed p).1) (sortL (parsed p).1.fr) := by
  obtain ⟨g1, g2, g3, g4⟩ := read_good h
  refine (sortsOf_calls (parsed p).1 W w.heap.size b g3 hl (by omega)).mono ?_
  rintro e w2 ⟨g, m, N, v1, v2, rfl, hs, hm, hb2, hg⟩
  exact ⟨g, m, N, v1, v2, rfl, hs, hm, below_then hb hb.size hb2⟩
end Go.Proofs.YtjgfgjhaghbehaaGreat
