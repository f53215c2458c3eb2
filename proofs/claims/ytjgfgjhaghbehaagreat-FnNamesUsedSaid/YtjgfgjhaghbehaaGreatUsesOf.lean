/- The walk of usesOf. -/
import Derived.Test.YtjgfgjhaghbehaaGreatUses
import Derived.Test.YtjgfgjhaghbehaaGreatWithF2
namespace Go.Proofs.YtjgfgjhaghbehaaGreat
open Go.RowKit Go.Proofs.YtjgfgjhaghbehaaGreatW.PrintWords Go.Proofs.YtjgfgjhaghbehaaGreatW.PrintMore Go.Proofs.YtjgfgjhaghbehaaGreat.Pterm
set_option linter.unusedVariables false
set_option linter.unusedSimpArgs false

def usV (p a : List UInt8) : Us := if withB p [a] = true then usF (a.headD 0) false (parsed p).1 Us.zero else Us.zero
def Us.agg (u : Us) : Value := .agg #[.int .i64 u.s, .int .i64 u.r, .int .i64 u.h, .int .i64 u.m, .int .i64 u.g]
theorem usV_bd (p a : List UInt8) : (usV p a).bd 1000 := by
  have hz : Us.zero.bd 0 := ⟨Nat.le_refl _, Nat.le_refl _, Nat.le_refl _, Nat.le_refl _, Nat.le_refl _⟩
  unfold usV
  split
  · rename_i h
    have hr : readOk p = true := by unfold withB at h; rw [Bool.and_eq_true] at h; exact h.1
    exact (bd_us _ _ _ _ _ hz).le (by have := (read_good hr).2.2.2; omega)
  · exact hz.le (by omega)

set_option maxHeartbeats 4000000 in
theorem usesOf_calls (p a : List UInt8) (w : World) (hp : p.length ≤ 140737488351232) (ha : a.length ≤ 140737488351232) :
    Calls Tryz.prog 35 #[.string (B p), .string (B a)] w fun e w' => e = .returned (.tuple #[(usV p a).agg, .bool (withB p [a])]) ∧ Below w.heap.size w w' := by
  go_enter Tryz.func35, Tryz.ntmps35
  go_wp2_with fail
  obtain ⟨w0, hW0⟩ : ∃ w0, w0 = w.alloc (.cells #[.int .i64 0, .int .i64 0, .int .i64 0, .int .i64 0, .int .i64 0] 60) := ⟨_, rfl⟩
  obtain ⟨w1, hW1⟩ : ∃ w1, w1 = w0.alloc (.cells #[.string (B a)] 9) := ⟨_, rfl⟩
  rw [← hW0, ← hW1]
  have hT := words_new w0 [a] 9
  have hs0 : w0.heap.size = w.heap.size + 1 := by rw [hW0]; simp
  rw [show w0.alloc (.cells ([a].map fun x => Value.string (B x)).toArray 9) = w1 from hW1.symm, hs0] at hT
  have hx : w1.heap[w.heap.size]? = some (.cells #[.int .i64 0, .int .i64 0, .int .i64 0, .int .i64 0, .int .i64 0] 60 (0, 0)) := by
    rw [hW1]; refine blk_alloc ?_ _; rw [hW0]; exact heap_alloc_new w _
  have hb1 : Below w.heap.size w w1 := by rw [hW1, hW0]; exact ((Below.refl w.heap.size w).alloc (Nat.le_refl _) _).alloc (by simp) _
  clear hW0 hW1 hs0
  have hwf := withFree_calls p (w.heap.size + 1) 1 [a] w1 hp hT (by simp) (fun x hx => by rw [List.mem_singleton.mp hx]; exact ha)
  refine hwf.mono ?_
  rintro e w2 ⟨hb2, q, rfl, hq⟩
  have hx2 := blk_below hx hb2
  have hb := below_then hb1 hb1.size hb2
  clear hx hb1 hb2 hT hwf
  rcases hok : withB p [a] with _ | _
  · have hv : Hid (usV p a = Us.zero) := by simp [Hid, usV, hok]
    have HO := Lib.hid hok
    have HX := Lib.hid hx2
    have HB := Lib.hid hb
    have b0 : w2.cell? ⟨w.heap.size, 0, none⟩ = some (.int .i64 0) := blk_cell hx2 0
    have b1 : w2.cell? ⟨w.heap.size, 1, none⟩ = some (.int .i64 0) := blk_cell hx2 1
    have b2 : w2.cell? ⟨w.heap.size, 2, none⟩ = some (.int .i64 0) := blk_cell hx2 2
    have b3 : w2.cell? ⟨w.heap.size, 3, none⟩ = some (.int .i64 0) := blk_cell hx2 3
    have b4 : w2.cell? ⟨w.heap.size, 4, none⟩ = some (.int .i64 0) := blk_cell hx2 4
    have f0 := blk_frozen hx2 0
    have f1 := blk_frozen hx2 1
    have f2 := blk_frozen hx2 2
    have f3 := blk_frozen hx2 3
    have f4 := blk_frozen hx2 4
    clear hok hq hx2 hb
    go_wp2_with fail
    refine bodyPost_ret (results_ct rfl _ _ w.heap.size 60 #[.int .i64 0, .int .i64 0, .int .i64 0, .int .i64 0, .int .i64 0] (0, 0) _ rfl (by
      refine blk_put (cs := #[.int .i64 0, .int .i64 0, .int .i64 0, .int .i64 0, .int .i64 0]) ?_ 4 _ rfl
      refine blk_put (cs := #[.int .i64 0, .int .i64 0, .int .i64 0, .int .i64 0, .int .i64 0]) ?_ 3 _ rfl
      refine blk_put (cs := #[.int .i64 0, .int .i64 0, .int .i64 0, .int .i64 0, .int .i64 0]) ?_ 2 _ rfl
      refine blk_put (cs := #[.int .i64 0, .int .i64 0, .int .i64 0, .int .i64 0, .int .i64 0]) ?_ 1 _ rfl
      refine blk_put (cs := #[.int .i64 0, .int .i64 0, .int .i64 0, .int .i64 0, .int .i64 0]) ?_ 0 _ rfl
      exact HX.out) Tryz.underlying60 rfl (by kernel_rfl)) rfl ?_
    exact ⟨by rw [hv.out, HO.out]; rfl, ((((HB.out.setCell (Nat.le_refl _) _).setCell (Nat.le_refl _) _).setCell (Nat.le_refl _) _).setCell (Nat.le_refl _) _).setCell (Nat.le_refl _) _⟩
  · obtain ⟨b, rfl, hli⟩ := hq hok
    have hok2 := hok
    simp only [withB, freeB, List.all_cons, List.all_nil, Bool.and_true, Bool.and_eq_true] at hok2
    obtain ⟨d, rfl, hd⟩ := oneB_iff.mp hok2.2.1
    have hv : Hid (usV p [d] = usF d false (parsed p).1 Us.zero) := by simp [Hid, usV, hok]
    have HO := Lib.hid hok
    have hG := read_good hok2.1
    have hz : (B [d]).size = 1 := B_size [d]
    have hby := byte_of [d] 0 (by simp)
    have hzero : Us.zero.bd 0 := ⟨Nat.le_refl _, Nat.le_refl _, Nat.le_refl _, Nat.le_refl _, Nat.le_refl _⟩
    have HC : Hid (∀ W, W = w2.alloc (.cells #[.int .i64 0, .int .i64 0, .int .i64 0, .int .i64 0, .int .i64 0] 60) → Calls Tryz.prog 69 #[.pointer (some ⟨w2.heap.size, 0, none⟩), .pointer (some ⟨b, 0, none⟩), .int .u8 (vl d), .bool false] W fun e w' => e = .returned (.tuple #[]) ∧ UsAt w' w2.heap.size (usF d false (parsed p).1 Us.zero) ∧ W.grownBy w' (some w2.heap.size)) := fun W hW =>
      count_any d 61 (parsed p).1 w2 W _ b w2.heap.size 0 Us.zero false (by have := hG.2.2.2; omega) (by omega) hG.2.2.1 hli (by rw [hW]; exact (Below.refl _ _).alloc (Nat.le_refl _) _) (Nat.le_refl _) ⟨60, by rw [hW]; exact heap_alloc_new w2 _⟩ hzero (by have := hG.2.2.2; omega)
    have HX := Lib.hid hx2
    have HB := Lib.hid hb
    clear hok hok2 hq hx2 hb hG hli hd
    go_wp2_with fail
    obtain ⟨W, hW⟩ : ∃ W, W = w2.alloc (.cells #[.int .i64 0, .int .i64 0, .int .i64 0, .int .i64 0, .int .i64 0] 60) := ⟨_, rfl⟩
    rw [← hW]
    refine (HC.out W hW).mono ?_
    rintro e w3 ⟨rfl, hu, hg⟩
    have hlt : w.heap.size < w2.heap.size := blk_lt HX.out
    have hxW : W.heap[w.heap.size]? = some (.cells #[.int .i64 0, .int .i64 0, .int .i64 0, .int .i64 0, .int .i64 0] 60 (0, 0)) := by rw [hW]; exact blk_alloc HX.out _
    have hx3 := (hg.block _ (blk_lt hxW) (by intro h; injection h; omega)).trans hxW
    have hbW : Below w.heap.size w W := by rw [hW]; exact HB.out.alloc HB.out.size _
    have hb3 := below_of_grown hbW hg (Nat.le_of_lt hlt)
    obtain ⟨eu, hu⟩ := hu
    generalize usF d false (parsed p).1 Us.zero = u at hu hv
    have u0 : w3.cell? ⟨w2.heap.size, 0, none⟩ = some (.int .i64 u.s) := blk_cell hu 0
    have u1 : w3.cell? ⟨w2.heap.size, 1, none⟩ = some (.int .i64 u.r) := blk_cell hu 1
    have u2 : w3.cell? ⟨w2.heap.size, 2, none⟩ = some (.int .i64 u.h) := blk_cell hu 2
    have u3 : w3.cell? ⟨w2.heap.size, 3, none⟩ = some (.int .i64 u.m) := blk_cell hu 3
    have u4 : w3.cell? ⟨w2.heap.size, 4, none⟩ = some (.int .i64 u.g) := blk_cell hu 4
    have b0 : w3.cell? ⟨w.heap.size, 0, none⟩ = some (.int .i64 0) := blk_cell hx3 0
    have b1 : w3.cell? ⟨w.heap.size, 1, none⟩ = some (.int .i64 0) := blk_cell hx3 1
    have b2 : w3.cell? ⟨w.heap.size, 2, none⟩ = some (.int .i64 0) := blk_cell hx3 2
    have b3 : w3.cell? ⟨w.heap.size, 3, none⟩ = some (.int .i64 0) := blk_cell hx3 3
    have b4 : w3.cell? ⟨w.heap.size, 4, none⟩ = some (.int .i64 0) := blk_cell hx3 4
    have f0 := blk_frozen hx3 0
    have f1 := blk_frozen hx3 1
    have f2 := blk_frozen hx3 2
    have f3 := blk_frozen hx3 3
    have f4 := blk_frozen hx3 4
    have HX3 := Lib.hid hx3
    have HB3 := Lib.hid hb3
    clear hW hxW hbW hb3 hx3 hu hg HC HX HB
    go_wp2_with fail
    refine bodyPost_ret (results_ct rfl _ _ w.heap.size 60 #[.int .i64 u.s, .int .i64 u.r, .int .i64 u.h, .int .i64 u.m, .int .i64 u.g] (0, 0) _ rfl (by
      refine blk_put (cs := #[.int .i64 u.s, .int .i64 u.r, .int .i64 u.h, .int .i64 u.m, .int .i64 0]) ?_ 4 _ rfl
      refine blk_put (cs := #[.int .i64 u.s, .int .i64 u.r, .int .i64 u.h, .int .i64 0, .int .i64 0]) ?_ 3 _ rfl
      refine blk_put (cs := #[.int .i64 u.s, .int .i64 u.r, .int .i64 0, .int .i64 0, .int .i64 0]) ?_ 2 _ rfl
      refine blk_put (cs := #[.int .i64 u.s, .int .i64 0, .int .i64 0, .int .i64 0, .int .i64 0]) ?_ 1 _ rfl
      refine blk_put (cs := #[.int .i64 0, .int .i64 0, .int .i64 0, .int .i64 0, .int .i64 0]) ?_ 0 _ rfl
      exact HX3.out) Tryz.underlying60 rfl (by kernel_rfl)) rfl ?_
    exact ⟨by rw [hv.out, HO.out]; rfl, ((((HB3.out.setCell (Nat.le_refl _) _).setCell (Nat.le_refl _) _).setCell (Nat.le_refl _) _).setCell (Nat.le_refl _) _).setCell (Nat.le_refl _) _⟩

end Go.Proofs.YtjgfgjhaghbehaaGreat
