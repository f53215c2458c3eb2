/- The law FnExactIsLinear, walked: the program's answer is the reference's. -/
import Derived.Test.YtjgfgjhaghbehaaGreatPlace2soPlace
import Derived.Test.YtjgfgjhaghbehaaGreatSoRepsoPlace
import Derived.Test.YtjgfgjhaghbehaaGreatUsesOf
namespace Go.Proofs.YtjgfgjhaghbehaaGreat.PFnExactIsLinear
open Go.RowKit Go.Proofs.YtjgfgjhaghbehaaGreatW.PrintWords Go.Proofs.YtjgfgjhaghbehaaGreatW.PrintLast Go.Proofs.YtjgfgjhaghbehaaGreatW.PrintMore Go.Proofs.YtjgfgjhaghbehaaGreat.Pterm Go.Proofs.YtjgfgjhaghbehaaGreat.PsoPlace
set_option linter.unusedVariables false
set_option linter.unusedSimpArgs false

def linU (u : Us) : Bool := decide (u.s = 1) && (decide (u.r = 1) && (decide (u.h = 0) && (decide (u.m = 0) && decide (u.g = 0))))
def out (p a : List UInt8) : Ending := .returned (.tuple #[.bool (linU (usV p a)), .bool (withB p [a])])
theorem with_one {p a : List UInt8} (h : withB p [a] = true) : readOk p = true ∧ ∃ c, a = [c] ∧ isLet c = true := by
  simp only [withB, freeB, List.all_cons, List.all_nil, Bool.and_true, Bool.and_eq_true] at h
  exact ⟨h.1, oneB_iff.mp h.2.1⟩

set_option maxHeartbeats 1000000 in
theorem IsLinear_calls (p a : List UInt8) (w : World) (hp : p.length ≤ 140737488351232) (ha : a.length ≤ 140737488351232) :
    Calls Tryz.prog 17 #[.string (B p), .string (B a)] w fun e w' => e = out p a ∧ Below w.heap.size w w' := by
  have hu := usesOf_calls p a w hp ha
  unfold Us.agg at hu
  have HV : Hid (out p a = .returned (.tuple #[.bool (linU (usV p a)), .bool (withB p [a])])) := rfl
  generalize usV p a = u at hu HV
  generalize withB p [a] = ok at hu HV
  go_enter Tryz.func17, Tryz.ntmps17
  go_wp2_with fail
  refine hu.mono ?_
  rintro e w1 ⟨rfl, hb⟩
  clear hu
  have HB := Lib.hid hb
  have hx := fun o => heap_alloc_new w1 o
  have d0 : (w1.alloc (.cells #[.int .i64 u.s, .int .i64 u.r, .int .i64 u.h, .int .i64 u.m, .int .i64 u.g] 60)).cell? ⟨w1.heap.size, 0, none⟩ = some (.int .i64 u.s) := blk_cell (hx _) 0
  have d1 : (w1.alloc (.cells #[.int .i64 u.s, .int .i64 u.r, .int .i64 u.h, .int .i64 u.m, .int .i64 u.g] 60)).cell? ⟨w1.heap.size, 1, none⟩ = some (.int .i64 u.r) := blk_cell (hx _) 1
  have d2 : (w1.alloc (.cells #[.int .i64 u.s, .int .i64 u.r, .int .i64 u.h, .int .i64 u.m, .int .i64 u.g] 60)).cell? ⟨w1.heap.size, 2, none⟩ = some (.int .i64 u.h) := blk_cell (hx _) 2
  have d3 : (w1.alloc (.cells #[.int .i64 u.s, .int .i64 u.r, .int .i64 u.h, .int .i64 u.m, .int .i64 u.g] 60)).cell? ⟨w1.heap.size, 3, none⟩ = some (.int .i64 u.m) := blk_cell (hx _) 3
  have d4 : (w1.alloc (.cells #[.int .i64 u.s, .int .i64 u.r, .int .i64 u.h, .int .i64 u.m, .int .i64 u.g] 60)).cell? ⟨w1.heap.size, 4, none⟩ = some (.int .i64 u.g) := blk_cell (hx _) 4
  clear hx hb
  by_cases h0 : u.s = 1
  case neg =>
    have b0 : ((u.s : Int) == 1) = false := by rw [beq_eq_false_iff_ne]; omega
    have HO : Hid (linU u = false) := by simp [Hid, linU, h0]
    clear h0
    go_wp2_with fail
    go_ret2
    exact ⟨by rw [HV.out, HO.out]; rfl, HB.out.alloc HB.out.size _⟩
  have b0 : ((u.s : Int) == 1) = true := by rw [beq_iff_eq]; omega
  by_cases h1 : u.r = 1
  case neg =>
    have b1 : ((u.r : Int) == 1) = false := by rw [beq_eq_false_iff_ne]; omega
    have HO : Hid (linU u = false) := by simp [Hid, linU, h0, h1]
    clear h0 h1
    go_wp2_with fail
    go_ret2
    exact ⟨by rw [HV.out, HO.out]; rfl, HB.out.alloc HB.out.size _⟩
  have b1 : ((u.r : Int) == 1) = true := by rw [beq_iff_eq]; omega
  by_cases h2 : u.h = 0
  case neg =>
    have b2 : ((u.h : Int) == 0) = false := by rw [beq_eq_false_iff_ne]; omega
    have HO : Hid (linU u = false) := by simp [Hid, linU, h0, h1, h2]
    clear h0 h1 h2
    go_wp2_with fail
    go_ret2
    exact ⟨by rw [HV.out, HO.out]; rfl, HB.out.alloc HB.out.size _⟩
  have b2 : ((u.h : Int) == 0) = true := by rw [beq_iff_eq]; omega
  by_cases h3 : u.m = 0
  case neg =>
    have b3 : ((u.m : Int) == 0) = false := by rw [beq_eq_false_iff_ne]; omega
    have HO : Hid (linU u = false) := by simp [Hid, linU, h0, h1, h2, h3]
    clear h0 h1 h2 h3
    go_wp2_with fail
    go_ret2
    exact ⟨by rw [HV.out, HO.out]; rfl, HB.out.alloc HB.out.size _⟩
  have b3 : ((u.m : Int) == 0) = true := by rw [beq_iff_eq]; omega
  by_cases h4 : u.g = 0
  case neg =>
    have b4 : ((u.g : Int) == 0) = false := by rw [beq_eq_false_iff_ne]; omega
    have HO : Hid (linU u = false) := by simp [Hid, linU, h0, h1, h2, h3, h4]
    clear h0 h1 h2 h3 h4
    go_wp2_with fail
    go_ret2
    exact ⟨by rw [HV.out, HO.out]; rfl, HB.out.alloc HB.out.size _⟩
  have b4 : ((u.g : Int) == 0) = true := by rw [beq_iff_eq]; omega
  have HO : Hid (linU u = true) := by simp [Hid, linU, h0, h1, h2, h3, h4]
  clear h0 h1 h2 h3 h4
  go_wp2_with fail
  go_ret2
  exact ⟨by rw [HV.out, HO.out]; rfl, HB.out.alloc HB.out.size _⟩

theorem us_get {p : List UInt8} {c : UInt8} (h : withB p [[c]] = true) : (usV p [c]).s = uf c (parsed p).1 0 ∧ (usV p [c]).r = uf c (parsed p).1 1 ∧ (usV p [c]).h = uf c (parsed p).1 2 ∧ (usV p [c]).m = uf c (parsed p).1 3 := by
  have e : usV p [c] = usF c false (parsed p).1 Us.zero := by unfold usV; rw [if_pos h]; rfl
  have h4 := us_four c (parsed p).1 false Us.zero
  have hl := us4_len c (parsed p).1
  rw [← e] at h4
  generalize usV p [c] = u at h4 ⊢
  unfold uf
  match h : us4 c (parsed p).1, hl with
  | [x0, x1, x2, x3], _ =>
    rw [h] at h4
    simp [Us.four, Us.zero, add4] at h4
    simpa using h4

theorem us_rep {p : List UInt8} {c : UInt8} (h : withB p [[c]] = true) : decide ((usV p [c]).g = 0) = !repB c (parsed p).1 := by
  have e : usV p [c] = usF c false (parsed p).1 Us.zero := by unfold usV; rw [if_pos h]; rfl
  have := us_false c (parsed p).1 Us.zero
  rw [← e, show Us.zero.g = 0 from rfl] at this
  rw [Bool.eq_iff_iff, decide_eq_true_eq, this]
  simp

set_option maxHeartbeats 4000000 in
theorem spec_calls (p a : List UInt8) (w : World) (hp : p.length ≤ 140737488351232) (ha : a.length ≤ 140737488351232) :
    Calls Tryz.prog 18 #[.string (B p), .string (B a)] w fun e w' => e = out p a ∧ Below w.heap.size w w' := by
  have hpl := place_f p a
  rcases hok : withB p [a] with _ | _
  · have HV : Hid (out p a = .returned (.tuple #[.bool false, .bool false])) := by simp only [Hid, out, usV, hok]; rfl
    rw [hok] at hpl
    clear hok
    go_enter Tryz.func18, Tryz.ntmps18
    go_wp2_with fail
    refine (spec_soPlace.calls 4000 (B p) (B a) _ _ _ hpl).mono ?_
    rintro e w1 ⟨rfl, hb⟩
    clear hpl
    go_wp2_with fail
    go_ret2
    exact ⟨by rw [HV.out]; rfl, hb⟩
  · obtain ⟨hr, c, rfl, hc⟩ := with_one hok
    have hu := us_get hok
    have hg := us_rep hok
    have HV : Hid (out p [c] = .returned (.tuple #[.bool (decide ((usV p [c]).s = 1) && (decide ((usV p [c]).r = 1) && (decide ((usV p [c]).h = 0) && (decide ((usV p [c]).m = 0) && !repB c (parsed p).1)))), .bool true])) := by
      simp only [Hid, out, hok, linU, hg]
    generalize usV p [c] = u at hu HV
    have HU := Lib.hid hu
    obtain ⟨g1, g2, g3, g4⟩ := read_good hr
    have HS : Hid (∀ W, Calls Tryz.prog 36 #[.string (B p), .int .u8 (vl c)] W fun e w' => ∃ g cc, e = .returned (.slice (some ⟨g, 0, none⟩) 4 cc) ∧ 4 ≤ cc ∧ Q4 W w' g (uf c (parsed p).1)) := fun W => by
      have := so_any c 60 (parsed p).1 W g4 (by omega) g3 (by rw [← g2]; omega)
      rw [← g2] at this
      exact this
    have hrep : ∀ W, Calls Tryz.prog 37 #[.string (B p), .int .u8 (vl c)] W fun e w' => e = .returned (.bool (repB c (parsed p).1)) ∧ Below W.heap.size W w' := fun W => by
      have := rep_any c hc 60 (parsed p).1 W g4 (by omega) g3 (by rw [← g2]; omega)
      rw [← g2] at this
      exact this
    generalize repB c (parsed p).1 = rb at hrep HV
    have HRP := Lib.hid hrep
    have hz : (B [c]).size = 1 := B_size [c]
    have hby := byte_of [c] 0 (by simp)
    rw [hok] at hpl
    clear hok hu hr g1 g2 g3 g4 hc hg hrep
    go_enter Tryz.func18, Tryz.ntmps18
    go_wp2_with fail
    refine (spec_soPlace.calls 4000 (B p) (B [c]) _ _ _ hpl).mono ?_
    rintro e w1 ⟨rfl, hb⟩
    clear hpl
    go_wp2_with fail
    refine (HS.out _).mono ?_
    rintro e w2 ⟨g, cc, rfl, hcc, hq⟩
    have hb2 := below_then hb hb.size hq.below
    have c0 : w2.cell? ⟨g, 0, none⟩ = some (.int .i64 u.s) := by have := (hq.four.cell (i := 0) (by omega)).1; rw [← HU.out.1] at this; exact this
    have c1 : w2.cell? ⟨g, 1, none⟩ = some (.int .i64 u.r) := by have := (hq.four.cell (i := 1) (by omega)).1; rw [← HU.out.2.1] at this; exact this
    have c2 : w2.cell? ⟨g, 2, none⟩ = some (.int .i64 u.h) := by have := (hq.four.cell (i := 2) (by omega)).1; rw [← HU.out.2.2.1] at this; exact this
    have c3 : w2.cell? ⟨g, 3, none⟩ = some (.int .i64 u.m) := by have := (hq.four.cell (i := 3) (by omega)).1; rw [← HU.out.2.2.2] at this; exact this
    have HB := Lib.hid hb2
    clear hb hq hb2
    by_cases h0 : u.s = 1
    case neg =>
      have b0 : ((u.s : Int) == 1) = false := by rw [beq_eq_false_iff_ne]; omega
      have HO : Hid (out p [c] = .returned (.tuple #[.bool false, .bool true])) := by have h := HV.out; show _ = _; simpa [h0] using h
      clear h0
      go_wp2_with fail
      go_ret2
      exact ⟨by rw [HO.out]; rfl, HB.out⟩
    have b0 : ((u.s : Int) == 1) = true := by rw [beq_iff_eq]; omega
    by_cases h1 : u.r = 1
    case neg =>
      have b1 : ((u.r : Int) == 1) = false := by rw [beq_eq_false_iff_ne]; omega
      have HO : Hid (out p [c] = .returned (.tuple #[.bool false, .bool true])) := by have h := HV.out; show _ = _; simpa [h0, h1] using h
      clear h0 h1
      go_wp2_with fail
      go_ret2
      exact ⟨by rw [HO.out]; rfl, HB.out⟩
    have b1 : ((u.r : Int) == 1) = true := by rw [beq_iff_eq]; omega
    by_cases h2 : u.h = 0
    case neg =>
      have b2 : ((u.h : Int) == 0) = false := by rw [beq_eq_false_iff_ne]; omega
      have HO : Hid (out p [c] = .returned (.tuple #[.bool false, .bool true])) := by have h := HV.out; show _ = _; simpa [h0, h1, h2] using h
      clear h0 h1 h2
      go_wp2_with fail
      go_ret2
      exact ⟨by rw [HO.out]; rfl, HB.out⟩
    have b2 : ((u.h : Int) == 0) = true := by rw [beq_iff_eq]; omega
    by_cases h3 : u.m = 0
    case neg =>
      have b3 : ((u.m : Int) == 0) = false := by rw [beq_eq_false_iff_ne]; omega
      have HO : Hid (out p [c] = .returned (.tuple #[.bool false, .bool true])) := by have h := HV.out; show _ = _; simpa [h0, h1, h2, h3] using h
      clear h0 h1 h2 h3
      go_wp2_with fail
      go_ret2
      exact ⟨by rw [HO.out]; rfl, HB.out⟩
    have b3 : ((u.m : Int) == 0) = true := by rw [beq_iff_eq]; omega
    have HO : Hid (out p [c] = .returned (.tuple #[.bool (!rb), .bool true])) := by have h := HV.out; show _ = _; simpa [h0, h1, h2, h3] using h
    clear h0 h1 h2 h3
    go_wp2_with fail
    refine (HRP.out _).mono ?_
    rintro e w3 ⟨rfl, hb3⟩
    have HB3 := Lib.hid (below_then HB.out HB.out.size hb3)
    clear hb3
    go_wp2_with fail
    go_ret2
    exact ⟨by rw [HO.out]; rfl, HB3.out⟩


end Go.Proofs.YtjgfgjhaghbehaaGreat.PFnExactIsLinear
