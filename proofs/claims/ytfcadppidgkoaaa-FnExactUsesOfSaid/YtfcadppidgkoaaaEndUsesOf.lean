/- The law FnExactUsesOf, walked: the program's answer is the reference's. -/
import Derived.Test.YtfcadppidgkoaaaPlacesoPlace
import Derived.Test.YtfcadppidgkoaaaSoUsessoPlace
import Derived.Test.YtfcadppidgkoaaaUsesOf
namespace Go.Proofs.Ytfcadppidgkoaaa.PFnExactUsesOf
open Go.RowKit Go.Proofs.YtfcadppidgkoaaaW.PrintWords Go.Proofs.YtfcadppidgkoaaaW.PrintLast Go.Proofs.YtfcadppidgkoaaaW.PrintMore Go.Proofs.Ytfcadppidgkoaaa.Pterm Go.Proofs.Ytfcadppidgkoaaa.PsoPlace
set_option linter.unusedVariables false
set_option linter.unusedSimpArgs false

/-- What both say. -/
def dirs (u : Us) : List UInt8 := (if 0 < u.s then [33] else []) ++ (if 0 < u.r then [63] else [])
def out (p a : List UInt8) : Ending := .returned (.tuple #[.string (B (dirs (usV p a))), .bool (withB p [a])])
theorem with_one {p a : List UInt8} (h : withB p [a] = true) : readOk p = true ∧ ∃ c, a = [c] ∧ isLet c = true := by
  simp only [withB, freeB, List.all_cons, List.all_nil, Bool.and_true, Bool.and_eq_true] at h
  exact ⟨h.1, oneB_iff.mp h.2.1⟩

set_option maxHeartbeats 2000000 in
theorem UsesOf_calls (p a : List UInt8) (w : World) (hp : p.length ≤ 140737488351232) (ha : a.length ≤ 140737488351232) :
    Calls Try.prog 29 #[.string (B p), .string (B a)] w fun e w' => e = out p a ∧ Below w.heap.size w w' := by
  have hu := usesOf_calls p a w hp ha
  unfold Us.agg at hu
  have HV : Hid (out p a = .returned (.tuple #[.string (B (dirs (usV p a))), .bool (withB p [a])])) := rfl
  generalize usV p a = u at hu HV
  generalize withB p [a] = ok at hu HV
  have e33 : (⟨#[33]⟩ : ByteArray).size = 1 := rfl
  have e63 : (⟨#[63]⟩ : ByteArray).size = 1 := rfl
  have e0 : (⟨#[]⟩ : ByteArray).size = 0 := rfl
  go_enter Try.func29, Try.ntmps29
  go_wp2_with fail
  refine hu.mono ?_
  rintro e w1 ⟨rfl, hb⟩
  clear hu
  obtain ⟨w2, hW2⟩ : ∃ w2, w2 = w1.alloc (.cells #[.int .i64 u.s, .int .i64 u.r, .int .i64 u.h, .int .i64 u.m, .int .i64 u.g] 74) := ⟨_, rfl⟩
  have hb2 : Below w.heap.size w w2 := by rw [hW2]; exact hb.alloc hb.size _
  have hx : w2.heap[w1.heap.size]? = some (.cells #[.int .i64 u.s, .int .i64 u.r, .int .i64 u.h, .int .i64 u.m, .int .i64 u.g] 74 (0, 0)) := by rw [hW2]; exact heap_alloc_new w1 _
  have c0 : w2.cell? ⟨w1.heap.size, 0, none⟩ = some (.int .i64 u.s) := blk_cell hx 0
  have c1 : w2.cell? ⟨w1.heap.size, 1, none⟩ = some (.int .i64 u.r) := blk_cell hx 1
  have d0 : (w1.alloc (.cells #[.int .i64 u.s, .int .i64 u.r, .int .i64 u.h, .int .i64 u.m, .int .i64 u.g] 74)).cell? ⟨w1.heap.size, 0, none⟩ = some (.int .i64 u.s) := blk_cell (heap_alloc_new w1 _) 0
  have d1 : (w1.alloc (.cells #[.int .i64 u.s, .int .i64 u.r, .int .i64 u.h, .int .i64 u.m, .int .i64 u.g] 74)).cell? ⟨w1.heap.size, 1, none⟩ = some (.int .i64 u.r) := blk_cell (heap_alloc_new w1 _) 1
  have HB := Lib.hid hb2
  have HW := Lib.hid hW2
  clear hb hb2 hW2 hx c0 c1
  by_cases h1 : 0 < u.s
  · by_cases h2 : 0 < u.r
    · have HD : Hid (B (dirs u) = (⟨#[]⟩ : ByteArray) ++ (⟨#[33]⟩ : ByteArray) ++ (⟨#[63]⟩ : ByteArray)) := by simp only [Hid, dirs, if_pos h1, if_pos h2]; rfl
      go_wp2_with fail
      go_ret2
      exact ⟨by rw [HV.out, HD.out]; rfl, by rw [← HW.out]; exact HB.out⟩
    · have HD : Hid (B (dirs u) = (⟨#[]⟩ : ByteArray) ++ (⟨#[33]⟩ : ByteArray)) := by simp only [Hid, dirs, if_pos h1, if_neg h2]; rfl
      go_wp2_with fail
      go_ret2
      exact ⟨by rw [HV.out, HD.out]; rfl, by rw [← HW.out]; exact HB.out⟩
  · by_cases h2 : 0 < u.r
    · have HD : Hid (B (dirs u) = (⟨#[]⟩ : ByteArray) ++ (⟨#[63]⟩ : ByteArray)) := by simp only [Hid, dirs, if_neg h1, if_pos h2]; rfl
      go_wp2_with fail
      go_ret2
      exact ⟨by rw [HV.out, HD.out]; rfl, by rw [← HW.out]; exact HB.out⟩
    · have HD : Hid (B (dirs u) = (⟨#[]⟩ : ByteArray)) := by simp only [Hid, dirs, if_neg h1, if_neg h2]; rfl
      go_wp2_with fail
      go_ret2
      exact ⟨by rw [HV.out, HD.out]; rfl, by rw [← HW.out]; exact HB.out⟩

theorem us_get {p : List UInt8} {c : UInt8} (h : withB p [[c]] = true) : (usV p [c]).s = uf c (parsed p).1 0 ∧ (usV p [c]).r = uf c (parsed p).1 1 ∧ (usV p [c]).h = uf c (parsed p).1 2 ∧ (usV p [c]).m = uf c (parsed p).1 3 := by
  have e : usV p [c] = usF c false (parsed p).1 Us.zero := by unfold usV; rw [if_pos h]; rfl
  have h4 := us_four c (parsed p).1 false Us.zero
  have hl := us4_len c (parsed p).1
  rw [← e] at h4
  generalize usV p [c] = u at h4 ⊢
  unfold uf
  match h : us4 c (parsed p).1, hl with
  | [x0, x1, x2, x3], _ =>
    rw [h] at h4
    simp [Us.four, Us.zero, add4] at h4
    simpa using h4

set_option maxHeartbeats 2000000 in
theorem spec_calls (p a : List UInt8) (w : World) (hp : p.length ≤ 140737488351232) (ha : a.length ≤ 140737488351232) :
    Calls Try.prog 28 #[.string (B p), .string (B a)] w fun e w' => e = out p a ∧ Below w.heap.size w w' := by
  have hpl := place_f p a
  rcases hok : withB p [a] with _ | _
  · have HV : Hid (out p a = .returned (.tuple #[.string ⟨#[]⟩, .bool false])) := by simp only [Hid, out, usV, hok]; rfl
    rw [hok] at hpl
    clear hok
    go_enter Try.func28, Try.ntmps28
    go_wp2_with fail
    refine (spec_soPlace.calls 4000 (B p) (B a) _ _ _ hpl).mono ?_
    rintro e w1 ⟨rfl, hb⟩
    clear hpl
    go_wp2_with fail
    go_ret2
    exact ⟨by rw [HV.out]; rfl, hb⟩
  · obtain ⟨hr, c, rfl, hc⟩ := with_one hok
    have hu := us_get hok
    have HV : Hid (out p [c] = .returned (.tuple #[.string (B (dirs (usV p [c]))), .bool true])) := by simp only [Hid, out, hok]
    generalize usV p [c] = u at hu HV
    have HU := Lib.hid hu
    obtain ⟨g1, g2, g3, g4⟩ := read_good hr
    have HS : Hid (∀ W, Calls Try.prog 70 #[.string (B p), .int .u8 (vl c)] W fun e w' => ∃ g cc, e = .returned (.slice (some ⟨g, 0, none⟩) 4 cc) ∧ 4 ≤ cc ∧ Q4 W w' g (uf c (parsed p).1)) := fun W => by
      have := so_any c 60 (parsed p).1 W g4 (by omega) g3 (by rw [← g2]; omega)
      rw [← g2] at this
      exact this
    have hz : (B [c]).size = 1 := B_size [c]
    have hby := byte_of [c] 0 (by simp)
    rw [hok] at hpl
    clear hok hu hr g1 g2 g3 g4 hc
    go_enter Try.func28, Try.ntmps28
    go_wp2_with fail
    refine (spec_soPlace.calls 4000 (B p) (B [c]) _ _ _ hpl).mono ?_
    rintro e w1 ⟨rfl, hb⟩
    clear hpl
    go_wp2_with fail
    refine (HS.out _).mono ?_
    rintro e w2 ⟨g, cc, rfl, hcc, hq⟩
    have hb2 := below_then hb hb.size hq.below
    have c0 : w2.cell? ⟨g, 0, none⟩ = some (.int .i64 u.s) := by have := (hq.four.cell (i := 0) (by omega)).1; rw [← HU.out.1] at this; exact this
    have c1 : w2.cell? ⟨g, 1, none⟩ = some (.int .i64 u.r) := by have := (hq.four.cell (i := 1) (by omega)).1; rw [← HU.out.2.1] at this; exact this
    have HB := Lib.hid hb2
    have e33 : (⟨#[33]⟩ : ByteArray).size = 1 := rfl
    have e63 : (⟨#[63]⟩ : ByteArray).size = 1 := rfl
    have e0 : (⟨#[]⟩ : ByteArray).size = 0 := rfl
    clear hb hq hb2
    by_cases h1 : 0 < u.s
    · by_cases h2 : 0 < u.r
      · have HD : Hid (B (dirs u) = (⟨#[]⟩ : ByteArray) ++ (⟨#[33]⟩ : ByteArray) ++ (⟨#[63]⟩ : ByteArray)) := by simp only [Hid, dirs, if_pos h1, if_pos h2]; rfl
        go_wp2_with fail
        go_ret2
        exact ⟨by rw [HV.out, HD.out]; rfl, HB.out⟩
      · have HD : Hid (B (dirs u) = (⟨#[]⟩ : ByteArray) ++ (⟨#[33]⟩ : ByteArray)) := by simp only [Hid, dirs, if_pos h1, if_neg h2]; rfl
        go_wp2_with fail
        go_ret2
        exact ⟨by rw [HV.out, HD.out]; rfl, HB.out⟩
    · by_cases h2 : 0 < u.r
      · have HD : Hid (B (dirs u) = (⟨#[]⟩ : ByteArray) ++ (⟨#[63]⟩ : ByteArray)) := by simp only [Hid, dirs, if_neg h1, if_pos h2]; rfl
        go_wp2_with fail
        go_ret2
        exact ⟨by rw [HV.out, HD.out]; rfl, HB.out⟩
      · have HD : Hid (B (dirs u) = (⟨#[]⟩ : ByteArray)) := by simp only [Hid, dirs, if_neg h1, if_neg h2]; rfl
        go_wp2_with fail
        go_ret2
        exact ⟨by rw [HV.out, HD.out]; rfl, HB.out⟩

set_option maxHeartbeats 1000000 in
theorem law_walk (s t : ByteArray) (w : World) (hs : s.size ≤ 140737488351232) (ht : t.size ≤ 140737488351232) :
    Calls Try.prog 8 #[.string s, .string t] w fun e w' => e = .returned (.bool true) ∧ Below w.heap.size w w' := by
  obtain ⟨l, rfl⟩ := B_of s
  obtain ⟨m, rfl⟩ := B_of t
  have hz : (B l).size = l.length := B_size l
  have hz2 : (B m).size = m.length := B_size m
  rw [hz] at hs
  rw [hz2] at ht
  by_cases hbig : l.length > 1048576
  · go_enter Try.func8, Try.ntmps8
    go_wp2_with fail
    go_ret
    exact ⟨rfl, Below.refl _ _⟩
  by_cases hbig2 : m.length > 1048576
  · go_enter Try.func8, Try.ntmps8
    go_wp2_with fail
    go_ret
    exact ⟨rfl, Below.refl _ _⟩
  · have HF := spec_calls l m
    have HI := UsesOf_calls l m
    unfold out at HF HI
    go_enter Try.func8, Try.ntmps8
    go_wp2_with fail
    refine (HF _ hs ht).mono ?_
    rintro e w1 ⟨rfl, hb1⟩
    go_wp2_with fail
    refine (HI _ hs ht).mono ?_
    rintro e w2 ⟨rfl, hb⟩
    replace hb := below_then hb1 hb1.size hb
    clear hb1
    go_wp2_with fail
    go_ret
    exact ⟨rfl, hb⟩

end Go.Proofs.Ytfcadppidgkoaaa.PFnExactUsesOf
