-- Several texts of this claim in one.
import Derived.Test.YtjgfgjhaghbehaaGreatFreeW
import Derived.Test.YtjgfgjhaghbehaaGreatWMore
import Derived.Test.YtjgfgjhaghbehaaGreatWTab
import Derived.Test.YtjgfgjhaghbehaaGreatWFour
import Derived.Test.YtjgfgjhaghbehaaGreatReads
import Derived.Test.YtjgfgjhaghbehaaGreatSortE
/- The reference's drawing functions: whatever the bytes, they end, and hand back texts of few bytes. -/
namespace Go.Proofs.YtjgfgjhaghbehaaGreat.Dr
open Go.RowKit Go.Proofs.YtjgfgjhaghbehaaGreatW.PrintWords Go.Proofs.YtjgfgjhaghbehaaGreatW.PrintLast Go.Proofs.YtjgfgjhaghbehaaGreatW.PrintMore
set_option linter.unusedVariables false
set_option linter.unusedSimpArgs false

structure ButD (T : Nat) (w w' : World) : Prop where
  size : w.heap.size ≤ w'.heap.size
  block : ∀ i, i < w.heap.size → i ≠ T → w'.heap[i]? = w.heap[i]?
section
variable {T : Nat} {w w' w'' : World}
theorem ButD.refl (T : Nat) (w : World) : ButD T w w := ⟨Nat.le_refl _, fun _ _ _ => rfl⟩
theorem ButD.of (h : Below w.heap.size w w') : ButD T w w' := ⟨h.size, fun i hi _ => h.block i hi⟩
theorem ButD.trans (h : ButD T w w') (k : ButD T w' w'') : ButD T w w'' := ⟨Nat.le_trans h.size k.size, fun i hi hn => (k.block i (Nat.lt_of_lt_of_le hi h.size) hn).trans (h.block i hi hn)⟩
theorem ButD.put (h : ButD T w w') (i : Nat) (v : Value) : ButD T w (w'.setCell ⟨T, i, none⟩ v) :=
  ⟨by simpa [World.setCell] using h.size, fun j hj hn => (Below.heap_setCell w' _ _ j (by simp; omega)).trans (h.block j hj hn)⟩
theorem ButD.cell (h : ButD T w w') {a : Addr} (ha : a.block < w.heap.size) (hn : a.block ≠ T) : w'.cell? a = w.cell? a := World.cell?_of_block (h.block _ ha hn)
end
structure Cur (w0 wb : World) (g : Nat) (A : Option Addr) (l : List Int) (c Bd : Nat) (w : World) : Prop where
  code : Kd.C (Kd.int .u8) w0 A l.length l
  byte : ∀ x, x ∈ l → 0 ≤ x ∧ x ≤ 255
  few : l.length ≤ 100000000
  cell : ∃ (a : Nat) (seed : Int) (e : TypeId), a ≤ Bd ∧ 0 ≤ seed ∧ seed < 18446744073709551616 ∧ w.heap[g]? = some (.cells #[.slice A l.length c, .int .i64 a, .int .u64 seed] e (0, 0))
  below : Below w0.heap.size w0 w
  hg : w0.heap.size ≤ g
  but : ButD g wb w
section
variable {w0 wb w w' : World} {g : Nat} {A : Option Addr} {l : List Int} {c Bd : Nat}
theorem Cur.lt (h : Cur w0 wb g A l c Bd w) : g < w.heap.size := by obtain ⟨_, _, _, _, _, _, h⟩ := h.cell; exact blk_lt h
theorem Cur.later (h : Cur w0 wb g A l c Bd w) (hb : Below w.heap.size w w') : Cur w0 wb g A l c Bd w' := by
  obtain ⟨h1, h2, h3, ⟨a, s, e, a1, a2, a3, a4⟩, h5, h6, h7⟩ := h
  exact ⟨h1, h2, h3, ⟨a, s, e, a1, a2, a3, (hb.block _ (blk_lt a4)).trans a4⟩, below_then h5 h5.size hb, h6, h7.trans (.of hb)⟩
theorem Cur.more (h : Cur w0 wb g A l c Bd w) {B2 : Nat} (hB : Bd ≤ B2) : Cur w0 wb g A l c B2 w := by
  obtain ⟨h1, h2, h3, ⟨a, s, e, a1, a2, a3, a4⟩, h5, h6, h7⟩ := h
  exact ⟨h1, h2, h3, ⟨a, s, e, Nat.le_trans a1 hB, a2, a3, a4⟩, h5, h6, h7⟩
theorem Cur.here (h : Cur w0 wb g A l c Bd w) : Cur w0 w g A l c Bd w := by
  obtain ⟨h1, h2, h3, h4, h5, h6, h7⟩ := h
  exact ⟨h1, h2, h3, h4, h5, h6, .refl _ _⟩
theorem Cur.back (k : Cur w0 w g A l c Bd w') (h : ButD g wb w) : Cur w0 wb g A l c Bd w' := by
  obtain ⟨h1, h2, h3, h4, h5, h6, h7⟩ := k
  exact ⟨h1, h2, h3, h4, h5, h6, h.trans h7⟩
theorem Cur.drewN (h : Cur w0 wb g A l c Bd w) (m : Nat) : Cur w0 wb g A l c Bd (w.drewN m) := h.later (pw_below_drewN (Below.refl _ _) m)
theorem Cur.put (h : Cur w0 wb g A l c Bd w) {a : Nat} {s : Int} {e : TypeId} (ha : a ≤ Bd) (hc : w.heap[g]? = some (.cells #[.slice A l.length c, .int .i64 a, .int .u64 s] e (0, 0))) (m : Nat) {s2 : Int} (h0 : 0 ≤ s2) (h1 : s2 < 18446744073709551616) :
    Cur w0 wb g A l c (Bd + 1) (((w.drewN m).setCell ⟨g, 1, none⟩ (.int .i64 ((a : Int) + 1))).setCell ⟨g, 2, none⟩ (.int .u64 s2)) := by
  have hbd := (h.but.trans (.of (pw_below_drewN (Below.refl _ _) m)))
  obtain ⟨q1, q2, q3, _, q5, q6, q7⟩ := h
  have hd : (w.drewN m).heap[g]? = some (.cells #[.slice A l.length c, .int .i64 a, .int .u64 s] e (0, 0)) := hc
  exact ⟨q1, q2, q3, ⟨a + 1, s2, e, by omega, h0, h1, blk_put (blk_put (cs' := #[.slice A l.length c, .int .i64 ((a : Int) + 1), .int .u64 s]) hd 1 _ rfl) 2 _ rfl⟩, ((pw_below_drewN q5 m).setCell q6 _).setCell q6 _, q6, (hbd.put _ _).put _ _⟩
theorem put_blk {A : Option Addr} {n a : Nat} {s : Int} {e : TypeId} (hc : w.heap[g]? = some (.cells #[.slice A n c, .int .i64 a, .int .u64 s] e (0, 0))) (m : Nat) (s2 : Int) :
    (((w.drewN m).setCell ⟨g, 1, none⟩ (.int .i64 ((a : Int) + 1))).setCell ⟨g, 2, none⟩ (.int .u64 s2)).heap[g]? = some (.cells #[.slice A n c, .int .i64 ((a : Int) + 1), .int .u64 s2] e (0, 0)) := by
  have hd : (w.drewN m).heap[g]? = some (.cells #[.slice A n c, .int .i64 a, .int .u64 s] e (0, 0)) := hc
  exact blk_put (blk_put (cs' := #[.slice A n c, .int .i64 ((a : Int) + 1), .int .u64 s]) hd 1 _ rfl) 2 _ rfl
end
theorem u64_range (x : Int) : 0 ≤ IntKind.u64.wrap x ∧ IntKind.u64.wrap x < 18446744073709551616 := by rw [IntKind.wrap_u64]; omega
theorem and_255 (y : Int) : 0 ≤ Go.bits .and .u64 y 255 ∧ Go.bits .and .u64 y 255 ≤ 255 := by
  have h : (BitVec.ofInt 64 y &&& BitVec.ofInt 64 255).toNat ≤ 255 := by rw [BitVec.toNat_and]; exact Nat.le_trans Nat.and_le_right (by decide)
  show 0 ≤ IntKind.u64.wrap ((BitVec.ofInt 64 y &&& BitVec.ofInt 64 255).toNat : Int) ∧ IntKind.u64.wrap ((BitVec.ofInt 64 y &&& BitVec.ofInt 64 255).toNat : Int) ≤ 255
  rw [IntKind.wrap_u64]
  omega
theorem name_wd {P : Program} {c : Code} {Q : Exit → Act → World → Prop} {a : Act} {w : World} (h : ∀ W, W = w → c.wp P Q a W) : c.wp P Q a w := h w rfl
set_option maxHeartbeats 2000000 in
set_option maxRecDepth 100000 in
theorem next_calls {w0 wb w : World} {g : Nat} {A : Option Addr} {l : List Int} {c Bd : Nat} (h : Cur w0 wb g A l c Bd w) (hB : Bd ≤ 1000000000) :
    Calls Tryz.prog 76 #[.pointer (some ⟨g, 0, none⟩)] w fun e w' => ∃ x : Int, 0 ≤ x ∧ x ≤ 255 ∧ e = .returned (.int .i64 x) ∧ Cur w0 wb g A l c (Bd + 1) w' := by
  obtain ⟨a, s, e, a1, a2, a3, a4⟩ := h.cell
  have c0 := blk_cell a4 0
  have c1 := blk_cell a4 1
  have c2 := blk_cell a4 2
  have f0 := blk_frozen a4 0
  have f1 := blk_frozen a4 1
  have f2 := blk_frozen a4 2
  have H := Lib.hid h
  have HA := Lib.hid a4
  have hfew := h.few
  clear h a4
  by_cases hlt : a < l.length
  · obtain ⟨ad, rfl, hcell⟩ := Kd.at_int H.out.code (a : Int) (by omega) (by omega)
    rw [Int.toNat_natCast] at hcell
    have hblk := World.block_lt_of_cell? w0 _ hcell
    have hc2 := (H.out.below.cell hblk).trans hcell
    have hrd : 0 ≤ rd l (a : Int) ∧ rd l (a : Int) ≤ 255 := by
      have hm : rd l (a : Int) = l[a] := by unfold rd; simp [List.getD, List.getElem?_eq_getElem hlt]
      rw [hm]
      exact H.out.byte _ (List.getElem_mem hlt)
    generalize rd l (a : Int) = x at hc2 hrd
    clear hcell hblk
    have hle : (a : Int) < (l.length : Int) := by omega
    have hw1 : IntKind.i64.wrap ((a : Int) + 1) = (a : Int) + 1 := by rw [IntKind.wrap_i64]; omega
    go_enter Tryz.func76, Tryz.ntmps76
    go_wp2_with fail
    go_quiet (fail)
    go_wp2_with fail
    go_quiet (fail)
    go_wp2_with fail
    refine name_wd ?_
    intro W1 hW1
    have H1 : Hid (Cur w0 wb g (some ad) l c (Bd + 1) W1) := by rw [hW1]; exact H.out.put a1 HA.out _ (u64_range _).1 (u64_range _).2
    have HC1 : Hid (W1.cell? ⟨g, 0, none⟩ = some (.slice (some ad) l.length c) ∧ W1.cell? ⟨g, 1, none⟩ = some (.int .i64 ((a : Int) + 1))) := by
      rw [hW1]
      have hb := put_blk HA.out (w := w) (g := g)
      exact ⟨blk_cell (hb _ _) 0, blk_cell (hb _ _) 1⟩
    obtain ⟨d0, d1⟩ := HC1.out
    have hle2 : (a : Int) + 1 ≤ (l.length : Int) := by omega
    clear hW1 c0 c1 c2 f0 f1 f2 HA hc2
    go_quiet (fail)
    go_wp2_with fail
    go_ret
    exact ⟨x, hrd.1, hrd.2, rfl, H1.out.drewN _⟩
  · have hle : ¬ (a : Int) < (l.length : Int) := by omega
    have hw1 : IntKind.i64.wrap ((a : Int) + 1) = (a : Int) + 1 := by rw [IntKind.wrap_i64]; omega
    go_enter Tryz.func76, Tryz.ntmps76
    go_wp2_with fail
    go_quiet (fail)
    go_wp2_with fail
    refine name_wd ?_
    intro W1 hW1
    have H1 : Hid (Cur w0 wb g A l c (Bd + 1) W1) := by rw [hW1]; exact H.out.put a1 HA.out _ (u64_range _).1 (u64_range _).2
    obtain ⟨sd, HC1⟩ : ∃ sd, Hid (0 ≤ sd ∧ W1.heap[g]? = some (.cells #[.slice A l.length c, .int .i64 ((a : Int) + 1), .int .u64 sd] e (0, 0))) := by
      rw [hW1]
      exact ⟨_, (u64_range _).1, put_blk HA.out _ _⟩
    have d0 := blk_cell HC1.out.2 0
    have d1 := blk_cell HC1.out.2 1
    have d2 := blk_cell HC1.out.2 2
    have hle2 : ¬ (a : Int) + 1 ≤ (l.length : Int) := by omega
    clear hW1 c0 c1 c2 f0 f1 f2 HA
    go_quiet (fail)
    go_wp2_with fail
    go_ret
    have hr := and_255 (sd / 1099511627776)
    generalize Go.bits .and .u64 (sd / 1099511627776) 255 = z at hr ⊢
    have hz : wrap64 z = z := by unfold wrap64; omega
    exact ⟨wrap64 z, by omega, by omega, rfl, H1.out.drewN _⟩
def Picked (n x : Int) : Prop := 0 ≤ x ∧ (x < n ∨ x = 0)
set_option maxHeartbeats 1000000 in
theorem pick_calls {w0 wb w : World} {g : Nat} {A : Option Addr} {l : List Int} {c Bd : Nat} (h : Cur w0 wb g A l c Bd w) (hB : Bd ≤ 900000000) (n : Int) (hn : -1000000 ≤ n ∧ n ≤ 1000000) :
    Calls Tryz.prog 42 #[.pointer (some ⟨g, 0, none⟩), .int .i64 n] w fun e w' => ∃ x : Int, Picked n x ∧ e = .returned (.int .i64 x) ∧ Cur w0 wb g A l c (Bd + 2) w' := by
  by_cases h1 : n ≤ 1
  · have H := Lib.hid h
    clear h
    go_enter Tryz.func42, Tryz.ntmps42
    go_wp2_with fail
    go_ret
    exact ⟨0, ⟨by omega, .inr rfl⟩, rfl, H.out.more (by omega)⟩
  · have hnx := next_calls h (by omega)
    have hn0 : ¬ n = 0 := by omega
    by_cases h2 : n > 200
    · go_enter Tryz.func42, Tryz.ntmps42
      go_wp2_with fail
      refine hnx.mono ?_
      rintro e w1 ⟨x, hx0, hx1, rfl, hc1⟩
      have hnx2 := next_calls hc1 (by omega)
      clear hnx h hc1
      go_wp2_with fail
      refine hnx2.mono ?_
      rintro e w2 ⟨y, hy0, hy1, rfl, hc2⟩
      have HC := Lib.hid hc2
      clear hnx2 hc2
      have hw1 : IntKind.i64.wrap (x * 256) = x * 256 := by rw [IntKind.wrap_i64]; omega
      have hw2 : IntKind.i64.wrap (x * 256 + y) = x * 256 + y := by rw [IntKind.wrap_i64]; omega
      go_wp2_with fail
      go_ret
      exact ⟨_, ⟨Int.emod_nonneg _ hn0, .inl (Int.emod_lt_of_pos _ (by omega))⟩, rfl, HC.out⟩
    · go_enter Tryz.func42, Tryz.ntmps42
      go_wp2_with fail
      refine hnx.mono ?_
      rintro e w1 ⟨x, hx0, hx1, rfl, hc1⟩
      have HC := Lib.hid hc1
      clear hnx h hc1
      go_wp2_with fail
      go_ret
      exact ⟨_, ⟨Int.emod_nonneg _ hn0, .inl (Int.emod_lt_of_pos _ (by omega))⟩, rfl, HC.out.more (by omega)⟩
set_option maxHeartbeats 1000000 in
theorem one_calls {w0 wb w : World} {g : Nat} {A : Option Addr} {l : List Int} {c Bd : Nat} (h : Cur w0 wb g A l c Bd w) (hB : Bd ≤ 900000000) (n : Int) (hn : -1000000 ≤ n ∧ n ≤ 1000000) :
    Calls Tryz.prog 39 #[.pointer (some ⟨g, 0, none⟩), .int .i64 n] w fun e w' => ∃ b : Bool, e = .returned (.bool b) ∧ Cur w0 wb g A l c (Bd + 2) w' := by
  have hp := pick_calls h hB n hn
  clear h
  go_enter Tryz.func39, Tryz.ntmps39
  go_wp2_with fail
  refine hp.mono ?_
  rintro e w1 ⟨x, _, rfl, hc1⟩
  have HC := Lib.hid hc1
  clear hp hc1
  go_wp2_with fail
  go_ret
  exact ⟨_, rfl, HC.out⟩
def Rows_ (w : World) (b m K : Nat) : Prop := ∀ j, j < m → ∃ s : ByteArray, w.cell? ⟨b, j, none⟩ = some (.string s) ∧ s.size ≤ K
set_option maxHeartbeats 1000000 in
theorem of_calls {w0 wb w : World} {g : Nat} {A : Option Addr} {l : List Int} {c Bd : Nat} (h : Cur w0 wb g A l c Bd w) (hB : Bd ≤ 900000000) {b m K cap : Nat} (hm : 0 < m) (hm2 : m ≤ 1000) (hr : Rows_ w b m K) (hbg : b ≠ g) :
    Calls Tryz.prog 40 #[.pointer (some ⟨g, 0, none⟩), .slice (some ⟨b, 0, none⟩) m cap] w fun e w' => ∃ s : ByteArray, s.size ≤ K ∧ e = .returned (.string s) ∧ Cur w0 wb g A l c (Bd + 2) w' := by
  have hp := pick_calls h.here hB (m : Int) (by omega)
  have hbut := h.but
  clear h
  go_enter Tryz.func40, Tryz.ntmps40
  go_wp2_with fail
  refine hp.mono ?_
  rintro e w1 ⟨x, ⟨hx0, hx1⟩, rfl, hc1⟩
  obtain ⟨s, hs, hk⟩ := hr x.toNat (by omega)
  have hs1 : w1.cell? ⟨b, x.toNat, none⟩ = some (.string s) := by
    refine (hc1.but.cell (World.block_lt_of_cell? w _ hs) hbg).trans hs
  have HC := Lib.hid (hc1.back hbut)
  have hlt : x < (m : Int) := by omega
  clear hp hc1 hs hr hbut

  go_wp2_with fail
  go_ret
  exact ⟨_, hk, rfl, HC.out⟩

end Go.Proofs.YtjgfgjhaghbehaaGreat.Dr
/- The reference's drawing functions: a name, a spoilt text. -/
namespace Go.Proofs.YtjgfgjhaghbehaaGreat.Dr
open Go.RowKit Go.Proofs.YtjgfgjhaghbehaaGreatW.PrintWords Go.Proofs.YtjgfgjhaghbehaaGreatW.PrintLast Go.Proofs.YtjgfgjhaghbehaaGreatW.PrintMore
set_option linter.unusedVariables false
set_option linter.unusedSimpArgs false

theorem rows_lit (w : World) (vs : Array Value) (e : TypeId) (m K : Nat) (h : ∀ j, j < m → ∃ s : ByteArray, vs[j]? = some (.string s) ∧ s.size ≤ K) : Rows_ (w.alloc (.cells vs e)) w.heap.size m K := by
  intro j hj
  obtain ⟨s, h1, h2⟩ := h j hj
  refine ⟨s, ?_, h2⟩
  rw [blk_cell (heap_alloc_new w _) j]
  exact h1
set_option maxHeartbeats 1000000 in
theorem dname_calls {w0 wb w : World} {g : Nat} {A : Option Addr} {l : List Int} {c Bd : Nat} (h : Cur w0 wb g A l c Bd w) (hB : Bd ≤ 900000000) :
    Calls Tryz.prog 43 #[.pointer (some ⟨g, 0, none⟩)] w fun e w' => ∃ s : ByteArray, s.size ≤ 1 ∧ e = .returned (.string s) ∧ Cur w0 wb g A l c (Bd + 2) w' := by
  have H := Lib.hid h
  have hlt := Lib.hid h.lt
  clear h
  go_enter Tryz.func43, Tryz.ntmps43
  go_wp2_with fail
  refine (of_calls (H.out.later (below_alloc (Below.refl _ _) _)) hB (K := 1) (by omega) (by omega) (rows_lit w _ _ 7 1 ?_) (Ne.symm (Nat.ne_of_lt hlt.out))).mono ?_
  · intro j hj
    match j, hj with
    | 0, _ => exact ⟨_, rfl, by decide⟩
    | 1, _ => exact ⟨_, rfl, by decide⟩
    | 2, _ => exact ⟨_, rfl, by decide⟩
    | 3, _ => exact ⟨_, rfl, by decide⟩
    | 4, _ => exact ⟨_, rfl, by decide⟩
    | 5, _ => exact ⟨_, rfl, by decide⟩
    | 6, _ => exact ⟨_, rfl, by decide⟩
  rintro e w1 ⟨s, hs, rfl, hc1⟩
  have HC := Lib.hid hc1
  clear hc1
  go_wp2_with fail
  go_ret
  exact ⟨_, hs, rfl, HC.out⟩
theorem one_conv (w : World) (g : Nat) (a : UInt8) (h0 : w.cell? ⟨g, 0, none⟩ = some (.int .u8 (a.toNat : Int))) : (convert 22 9 (.slice (some ⟨g, 0, none⟩) 1 1)).run Tryz.prog w = .ok (.string (B [a])) w :=
  run_convert_bytes_back w 22 9 5 ⟨g, 0, none⟩ 1 [a] Tryz.underlying22 Tryz.underlying5 Tryz.underlying9 fun j hj => by
    rw [add_plain]
    have hj' : j < 1 := hj
    obtain rfl : j = 0 := by omega
    exact h0
set_option maxHeartbeats 4000000 in
set_option maxRecDepth 100000 in
theorem spoilt_calls {w0 wb w : World} {g : Nat} {A : Option Addr} {l : List Int} {c Bd : Nat} (h : Cur w0 wb g A l c Bd w) (hB : Bd ≤ 800000000) (t v : ByteArray) (ht : t.size ≤ 1000) (hv : 0 < v.size) (hv2 : v.size ≤ 1000) :
    Calls Tryz.prog 72 #[.pointer (some ⟨g, 0, none⟩), .string t, .string v] w fun e w' => ∃ s : ByteArray, s.size ≤ t.size + 2 ∧ e = .returned (.string s) ∧ Cur w0 wb g A l c (Bd + 20) w' := by
  have hp := pick_calls h (by omega) 2 (by omega)
  clear h
  go_enter Tryz.func72, Tryz.ntmps72
  go_wp2_with fail
  refine hp.mono ?_
  rintro e w1 ⟨x, ⟨hx0, hx1⟩, rfl, hc1⟩
  clear hp
  go_wp2_with fail
  go_loopw [1, 7] (fun vt vn wr => ∃ (k : Nat) (s : ByteArray), vt = .string s ∧ vn = .int .i64 k ∧ k ≤ 2 ∧ s.size + k ≤ t.size + 2 ∧ Cur w0 wb g A l c (Bd + 20 - 6 * k) wr) (fun _ vn _ => (intOf vn).toNat)
  case atStart => exact ⟨(1 + x).toNat, t, rfl, by congr 1; omega, by omega, by omega, hc1.more (by omega)⟩
  case round =>
    obtain ⟨k, s, rfl, rfl, hk, hs, hc⟩ := hrel
    clear hc1
    by_cases hk0 : (k : Int) > 0
    · by_cases hs0 : (s.size : Int) > 0
      · have hp1 := pick_calls hc (by omega) (s.size : Int) (by omega)
        clear hc
        go_wp2_with fail
        refine hp1.mono ?_
        rintro e w2 ⟨i, hi, rfl, hc2⟩
        clear hp1
        have hp2 := pick_calls hc2 (by omega) (v.size : Int) (by omega)
        clear hc2
        go_wp2_with fail
        refine hp2.mono ?_
        rintro e w3 ⟨j, hj, rfl, hc3⟩
        clear hp2
        have HC3 := Lib.hid hc3
        clear hc3
        obtain ⟨j0, j1⟩ := hj
        have j2 : j < (v.size : Int) := by omega
        have hj3 : j.toNat < v.size := by omega
        have hcv := one_conv (w3.alloc (.cells #[.int .u8 ((v[j.toNat]'hj3).toNat : Int)] 5)) w3.heap.size (v[j.toNat]'hj3) (blk_cell (heap_alloc_new w3 _) 0)
        have hB1 : Hid ((B [v[j.toNat]'hj3]).size = 1) := rfl
        generalize B [v[j.toNat]'hj3] = L at hcv hB1
        go_wp2_with fail
        have hp3 := pick_calls (HC3.out.later (below_alloc (Below.refl _ _) (.cells #[.int .u8 ((v[j.toNat]'hj3).toNat : Int)] 5))) (by omega) 3 (by omega)
        refine hp3.mono ?_
        rintro e w4 ⟨z, ⟨hz0, hz1⟩, rfl, hc4⟩
        clear hp3 hcv
        have HC4 := Lib.hid hc4
        clear hc4 HC3
        obtain ⟨hi0, hi1⟩ := hi
        obtain ⟨i, rfl⟩ : ∃ t : Nat, i = t := ⟨i.toNat, by omega⟩
        have hi2 : (i : Int) < (s.size : Int) := by omega
        have hi3 : (i : Int) ≤ (s.size : Int) := by omega
        have hi4 : (i : Int) + 1 ≤ (s.size : Int) := by omega
        have hw1 : IntKind.i64.wrap ((i : Int) + 1) = (i : Int) + 1 := by rw [IntKind.wrap_i64]; omega
        have hL := hB1.out
        by_cases z0 : z = 0
        · subst z0
          go_wp2_with fail
          go_quiet (fail)
          go_wp2_with fail
          go_roundw
          case rel => exact ⟨k - 1, _, rfl, by congr 1; omega, by omega, by simp only [ByteArray.size_append, ByteArray.size_extract]; omega, (HC4.out.drewN _).more (by omega)⟩
          case measure => simp [intOf]; omega
        by_cases z1 : z = 1
        · subst z1
          go_wp2_with fail
          go_quiet (fail)
          go_wp2_with fail
          go_roundw
          case rel => exact ⟨k - 1, _, rfl, by congr 1; omega, by omega, by simp only [ByteArray.size_append, ByteArray.size_extract]; omega, (HC4.out.drewN _).more (by omega)⟩
          case measure => simp [intOf]; omega
        obtain rfl : z = 2 := by omega
        go_wp2_with fail
        go_quiet (fail)
        go_wp2_with fail
        go_roundw
        case rel => exact ⟨k - 1, _, rfl, by congr 1; omega, by omega, by simp only [ByteArray.size_append, ByteArray.size_extract]; omega, (HC4.out.drewN _).more (by omega)⟩
        case measure => simp [intOf]; omega
      · have HC := Lib.hid hc
        clear hc
        go_wp2_with fail
        go_ret
        exact ⟨_, by omega, rfl, HC.out.more (by omega)⟩
    · have HC := Lib.hid hc
      clear hc
      go_wp2_with fail
      go_ret
      exact ⟨_, by omega, rfl, HC.out.more (by omega)⟩

end Go.Proofs.YtjgfgjhaghbehaaGreat.Dr
/- The reference's drawing functions: a process, and a part of a sum. -/
namespace Go.Proofs.YtjgfgjhaghbehaaGreat.Dr
open Go.RowKit Go.Proofs.YtjgfgjhaghbehaaGreatW.PrintWords Go.Proofs.YtjgfgjhaghbehaaGreatW.PrintLast Go.Proofs.YtjgfgjhaghbehaaGreatW.PrintMore
set_option linter.unusedVariables false
set_option linter.unusedSimpArgs false

def DrawsT (f : FuncId) (w0 : World) (g : Nat) (A : Option Addr) (l : List Int) (c k cost : Nat) : Prop :=
  ∀ (wb w : World) (Bd : Nat) (simple : Bool) (z : Int), z = (k : Int) → Cur w0 wb g A l c Bd w → Bd + cost ≤ 700000000 →
    Calls Tryz.prog f #[.pointer (some ⟨g, 0, none⟩), .int .i64 z, .bool simple] w fun e w' => ∃ s : ByteArray, s.size ≤ 6 * k + 1 ∧ e = .returned (.string s) ∧ Cur w0 wb g A l c (Bd + cost) w'

theorem lit_size (a : Array UInt8) : (ByteArray.mk a).size = a.size := rfl
set_option maxHeartbeats 8000000 in
set_option maxRecDepth 100000 in
theorem sure_step {w0 : World} {g : Nat} {A : Option Addr} {l : List Int} {c k : Nat} (hk : k ≤ 1000)
    (ih : ∀ j, j < k → DrawsT 71 w0 g A l c j (100 * j) ∧ DrawsT 95 w0 g A l c j (100 * j + 8)) :
    DrawsT 71 w0 g A l c k (100 * k) := by
  rintro wb w Bd simple _ rfl h hB
  have H := Lib.hid h
  clear h
  go_enter Tryz.func71, Tryz.ntmps71
  by_cases k2 : (k : Int) < 2
  · go_wp2_with fail
    go_ret
    refine ⟨_, ?_, rfl, H.out.more (by omega)⟩
    try simp only [ByteArray.size_append, lit_size]
    try simp only [List.size_toArray, List.length_cons, List.length_nil]
    omega
  go_wp2_with fail
  refine (pick_calls H.out (by omega) (16) (by omega)).mono ?_
  rintro e v1 ⟨x, ⟨x0, x1⟩, rfl, hc1⟩
  replace H := Lib.hid hc1
  clear hc1
  by_cases x4 : x < 4
  · skip
    go_wp2_with fail
    refine (dname_calls H.out (by omega)).mono ?_
    rintro e v2 ⟨s2, hs2, rfl, hc2⟩
    replace H := Lib.hid hc2
    clear hc2
    go_wp2_with fail
    refine (dname_calls H.out (by omega)).mono ?_
    rintro e v3 ⟨s3, hs3, rfl, hc3⟩
    replace H := Lib.hid hc3
    clear hc3
    go_wp2_with fail
    refine ((ih (k - 1) (by omega)).1 _ _ _ _ _ (by omega) H.out (by omega)).mono ?_
    rintro e v4 ⟨s4, hs4, rfl, hc4⟩
    replace H := Lib.hid hc4
    clear hc4
    go_wp2_with fail
    go_ret
    refine ⟨_, ?_, rfl, H.out.more (by omega)⟩
    try simp only [ByteArray.size_append, lit_size]
    try simp only [List.size_toArray, List.length_cons, List.length_nil]
    omega
  by_cases x8 : x < 8
  · skip
    go_wp2_with fail
    refine (dname_calls H.out (by omega)).mono ?_
    rintro e v5 ⟨s5, hs5, rfl, hc5⟩
    replace H := Lib.hid hc5
    clear hc5
    go_wp2_with fail
    refine (dname_calls H.out (by omega)).mono ?_
    rintro e v6 ⟨s6, hs6, rfl, hc6⟩
    replace H := Lib.hid hc6
    clear hc6
    go_wp2_with fail
    refine ((ih (k - 1) (by omega)).1 _ _ _ _ _ (by omega) H.out (by omega)).mono ?_
    rintro e v7 ⟨s7, hs7, rfl, hc7⟩
    replace H := Lib.hid hc7
    clear hc7
    go_wp2_with fail
    go_ret
    refine ⟨_, ?_, rfl, H.out.more (by omega)⟩
    try simp only [ByteArray.size_append, lit_size]
    try simp only [List.size_toArray, List.length_cons, List.length_nil]
    omega
  by_cases e8 : x = 8
  · subst e8
    go_wp2_with fail
    refine ((ih (k - 1) (by omega)).1 _ _ _ _ _ (by omega) H.out (by omega)).mono ?_
    rintro e v8 ⟨s8, hs8, rfl, hc8⟩
    replace H := Lib.hid hc8
    clear hc8
    go_wp2_with fail
    go_ret
    refine ⟨_, ?_, rfl, H.out.more (by omega)⟩
    try simp only [ByteArray.size_append, lit_size]
    try simp only [List.size_toArray, List.length_cons, List.length_nil]
    omega
  by_cases k3 : (k : Int) > 2
  · by_cases x12 : x < 12
    · skip
      go_wp2_with fail
      refine (pick_calls H.out (by omega) ((k : Int) - 2) (by omega)).mono ?_
      rintro e v9 ⟨y, ⟨y0, y1⟩, rfl, hc9⟩
      replace H := Lib.hid hc9
      clear hc9
      obtain ⟨y, rfl⟩ : ∃ t : Nat, y = t := ⟨y.toNat, by omega⟩
      go_wp2_with fail
      refine ((ih (1 + y) (by omega)).1 _ _ _ _ _ (by omega) H.out (by omega)).mono ?_
      rintro e v10 ⟨s10, hs10, rfl, hc10⟩
      replace H := Lib.hid hc10
      clear hc10
      go_wp2_with fail
      refine ((ih (k - 1 - (1 + y)) (by omega)).1 _ _ _ _ _ (by omega) H.out (by omega)).mono ?_
      rintro e v11 ⟨s11, hs11, rfl, hc11⟩
      replace H := Lib.hid hc11
      clear hc11
      go_wp2_with fail
      go_ret
      refine ⟨_, ?_, rfl, H.out.more (by omega)⟩
      try simp only [ByteArray.size_append, lit_size]
      try simp only [List.size_toArray, List.length_cons, List.length_nil]
      omega
    by_cases e12 : x = 12
    · subst e12
      go_wp2_with fail
      refine (dname_calls H.out (by omega)).mono ?_
      rintro e v12 ⟨s12, hs12, rfl, hc12⟩
      replace H := Lib.hid hc12
      clear hc12
      go_wp2_with fail
      refine ((ih (k - 1) (by omega)).1 _ _ _ _ _ (by omega) H.out (by omega)).mono ?_
      rintro e v13 ⟨s13, hs13, rfl, hc13⟩
      replace H := Lib.hid hc13
      clear hc13
      go_wp2_with fail
      go_ret
      refine ⟨_, ?_, rfl, H.out.more (by omega)⟩
      try simp only [ByteArray.size_append, lit_size]
      try simp only [List.size_toArray, List.length_cons, List.length_nil]
      omega
    by_cases e13 : x = 13
    · subst e13
      go_wp2_with fail
      refine (dname_calls H.out (by omega)).mono ?_
      rintro e v14 ⟨s14, hs14, rfl, hc14⟩
      replace H := Lib.hid hc14
      clear hc14
      go_wp2_with fail
      refine (dname_calls H.out (by omega)).mono ?_
      rintro e v15 ⟨s15, hs15, rfl, hc15⟩
      replace H := Lib.hid hc15
      clear hc15
      go_wp2_with fail
      refine ((ih (k - 1) (by omega)).1 _ _ _ _ _ (by omega) H.out (by omega)).mono ?_
      rintro e v16 ⟨s16, hs16, rfl, hc16⟩
      replace H := Lib.hid hc16
      clear hc16
      go_wp2_with fail
      go_ret
      refine ⟨_, ?_, rfl, H.out.more (by omega)⟩
      try simp only [ByteArray.size_append, lit_size]
      try simp only [List.size_toArray, List.length_cons, List.length_nil]
      omega
    by_cases e14 : x = 14
    · subst e14
      go_wp2_with fail
      refine (pick_calls H.out (by omega) ((k : Int) - 2) (by omega)).mono ?_
      rintro e v17 ⟨y, ⟨y0, y1⟩, rfl, hc17⟩
      replace H := Lib.hid hc17
      clear hc17
      obtain ⟨y, rfl⟩ : ∃ t : Nat, y = t := ⟨y.toNat, by omega⟩
      go_wp2_with fail
      refine ((ih (1 + y) (by omega)).2 _ _ _ _ _ (by omega) H.out (by omega)).mono ?_
      rintro e v18 ⟨s18, hs18, rfl, hc18⟩
      replace H := Lib.hid hc18
      clear hc18
      go_wp2_with fail
      refine ((ih (k - 1 - (1 + y)) (by omega)).2 _ _ _ _ _ (by omega) H.out (by omega)).mono ?_
      rintro e v19 ⟨s19, hs19, rfl, hc19⟩
      replace H := Lib.hid hc19
      clear hc19
      go_wp2_with fail
      go_ret
      refine ⟨_, ?_, rfl, H.out.more (by omega)⟩
      try simp only [ByteArray.size_append, lit_size]
      try simp only [List.size_toArray, List.length_cons, List.length_nil]
      omega
    obtain rfl : x = 15 := by omega
    rcases simple with _ | _
    · skip
      go_wp2_with fail
      refine ((ih (k - 1) (by omega)).1 _ _ _ _ _ (by omega) H.out (by omega)).mono ?_
      rintro e v20 ⟨s20, hs20, rfl, hc20⟩
      replace H := Lib.hid hc20
      clear hc20
      go_wp2_with fail
      go_ret
      refine ⟨_, ?_, rfl, H.out.more (by omega)⟩
      try simp only [ByteArray.size_append, lit_size]
      try simp only [List.size_toArray, List.length_cons, List.length_nil]
      omega
    · skip
      go_wp2_with fail
      refine (dname_calls H.out (by omega)).mono ?_
      rintro e v21 ⟨s21, hs21, rfl, hc21⟩
      replace H := Lib.hid hc21
      clear hc21
      go_wp2_with fail
      refine (dname_calls H.out (by omega)).mono ?_
      rintro e v22 ⟨s22, hs22, rfl, hc22⟩
      replace H := Lib.hid hc22
      clear hc22
      go_wp2_with fail
      refine ((ih (k - 2) (by omega)).1 _ _ _ _ _ (by omega) H.out (by omega)).mono ?_
      rintro e v23 ⟨s23, hs23, rfl, hc23⟩
      replace H := Lib.hid hc23
      clear hc23
      go_wp2_with fail
      go_ret
      refine ⟨_, ?_, rfl, H.out.more (by omega)⟩
      try simp only [ByteArray.size_append, lit_size]
      try simp only [List.size_toArray, List.length_cons, List.length_nil]
      omega
  · by_cases x12 : x < 12
    · skip
      go_wp2_with fail
      go_ret
      refine ⟨_, ?_, rfl, H.out.more (by omega)⟩
      try simp only [ByteArray.size_append, lit_size]
      try simp only [List.size_toArray, List.length_cons, List.length_nil]
      omega
    by_cases e12 : x = 12
    · subst e12
      go_wp2_with fail
      refine (dname_calls H.out (by omega)).mono ?_
      rintro e v24 ⟨s24, hs24, rfl, hc24⟩
      replace H := Lib.hid hc24
      clear hc24
      go_wp2_with fail
      refine ((ih (k - 1) (by omega)).1 _ _ _ _ _ (by omega) H.out (by omega)).mono ?_
      rintro e v25 ⟨s25, hs25, rfl, hc25⟩
      replace H := Lib.hid hc25
      clear hc25
      go_wp2_with fail
      go_ret
      refine ⟨_, ?_, rfl, H.out.more (by omega)⟩
      try simp only [ByteArray.size_append, lit_size]
      try simp only [List.size_toArray, List.length_cons, List.length_nil]
      omega
    by_cases e13 : x = 13
    · subst e13
      go_wp2_with fail
      refine (dname_calls H.out (by omega)).mono ?_
      rintro e v26 ⟨s26, hs26, rfl, hc26⟩
      replace H := Lib.hid hc26
      clear hc26
      go_wp2_with fail
      refine (dname_calls H.out (by omega)).mono ?_
      rintro e v27 ⟨s27, hs27, rfl, hc27⟩
      replace H := Lib.hid hc27
      clear hc27
      go_wp2_with fail
      refine ((ih (k - 1) (by omega)).1 _ _ _ _ _ (by omega) H.out (by omega)).mono ?_
      rintro e v28 ⟨s28, hs28, rfl, hc28⟩
      replace H := Lib.hid hc28
      clear hc28
      go_wp2_with fail
      go_ret
      refine ⟨_, ?_, rfl, H.out.more (by omega)⟩
      try simp only [ByteArray.size_append, lit_size]
      try simp only [List.size_toArray, List.length_cons, List.length_nil]
      omega
    by_cases e14 : x = 14
    · subst e14
      go_wp2_with fail
      go_ret
      refine ⟨_, ?_, rfl, H.out.more (by omega)⟩
      try simp only [ByteArray.size_append, lit_size]
      try simp only [List.size_toArray, List.length_cons, List.length_nil]
      omega
    obtain rfl : x = 15 := by omega
    go_wp2_with fail
    go_ret
    refine ⟨_, ?_, rfl, H.out.more (by omega)⟩
    try simp only [ByteArray.size_append, lit_size]
    try simp only [List.size_toArray, List.length_cons, List.length_nil]
    omega
set_option maxHeartbeats 8000000 in
set_option maxRecDepth 100000 in
theorem guard_step {w0 : World} {g : Nat} {A : Option Addr} {l : List Int} {c k : Nat} (hk : k ≤ 1000)
    (ih : ∀ j, j < k + 1 → DrawsT 71 w0 g A l c j (100 * j) ∧ True) :
    DrawsT 95 w0 g A l c k (100 * k + 8) := by
  rintro wb w Bd simple _ rfl h hB
  have H := Lib.hid h
  clear h
  go_enter Tryz.func95, Tryz.ntmps95
  rcases simple with _ | _
  · go_wp2_with fail
    refine (one_calls H.out (by omega) 4 (by omega)).mono ?_
    rintro e v ⟨b, rfl, hc⟩
    replace H := Lib.hid hc
    clear hc
    rcases b with _ | _
    · skip
      by_cases k2 : (k : Int) < 2
      · go_wp2_with fail
        go_ret
        refine ⟨_, ?_, rfl, H.out.more (by omega)⟩
        try simp only [ByteArray.size_append, lit_size]
        try simp only [List.size_toArray, List.length_cons, List.length_nil]
        omega
      go_wp2_with fail
      refine ((ih (k - 1) (by omega)).1 _ _ _ _ _ (by omega) H.out (by omega)).mono ?_
      rintro e v29 ⟨s29, hs29, rfl, hc29⟩
      replace H := Lib.hid hc29
      clear hc29
      go_wp2_with fail
      refine (pick_calls H.out (by omega) (5) (by omega)).mono ?_
      rintro e v30 ⟨x, ⟨x0, x1⟩, rfl, hc30⟩
      replace H := Lib.hid hc30
      clear hc30
      by_cases e0 : x = 0
      · subst e0
        go_wp2_with fail
        refine (dname_calls H.out (by omega)).mono ?_
        rintro e v31 ⟨s31, hs31, rfl, hc31⟩
        replace H := Lib.hid hc31
        clear hc31
        go_wp2_with fail
        refine (dname_calls H.out (by omega)).mono ?_
        rintro e v32 ⟨s32, hs32, rfl, hc32⟩
        replace H := Lib.hid hc32
        clear hc32
        go_wp2_with fail
        go_ret
        refine ⟨_, ?_, rfl, H.out.more (by omega)⟩
        try simp only [ByteArray.size_append, lit_size]
        try simp only [List.size_toArray, List.length_cons, List.length_nil]
        omega
      by_cases e1 : x = 1
      · subst e1
        go_wp2_with fail
        refine (dname_calls H.out (by omega)).mono ?_
        rintro e v33 ⟨s33, hs33, rfl, hc33⟩
        replace H := Lib.hid hc33
        clear hc33
        go_wp2_with fail
        refine (dname_calls H.out (by omega)).mono ?_
        rintro e v34 ⟨s34, hs34, rfl, hc34⟩
        replace H := Lib.hid hc34
        clear hc34
        go_wp2_with fail
        go_ret
        refine ⟨_, ?_, rfl, H.out.more (by omega)⟩
        try simp only [ByteArray.size_append, lit_size]
        try simp only [List.size_toArray, List.length_cons, List.length_nil]
        omega
      by_cases e2 : x = 2
      · subst e2
        go_wp2_with fail
        refine (dname_calls H.out (by omega)).mono ?_
        rintro e v35 ⟨s35, hs35, rfl, hc35⟩
        replace H := Lib.hid hc35
        clear hc35
        go_wp2_with fail
        refine (dname_calls H.out (by omega)).mono ?_
        rintro e v36 ⟨s36, hs36, rfl, hc36⟩
        replace H := Lib.hid hc36
        clear hc36
        go_wp2_with fail
        go_ret
        refine ⟨_, ?_, rfl, H.out.more (by omega)⟩
        try simp only [ByteArray.size_append, lit_size]
        try simp only [List.size_toArray, List.length_cons, List.length_nil]
        omega
      by_cases e3 : x = 3
      · subst e3
        go_wp2_with fail
        refine (dname_calls H.out (by omega)).mono ?_
        rintro e v37 ⟨s37, hs37, rfl, hc37⟩
        replace H := Lib.hid hc37
        clear hc37
        go_wp2_with fail
        refine (dname_calls H.out (by omega)).mono ?_
        rintro e v38 ⟨s38, hs38, rfl, hc38⟩
        replace H := Lib.hid hc38
        clear hc38
        go_wp2_with fail
        go_ret
        refine ⟨_, ?_, rfl, H.out.more (by omega)⟩
        try simp only [ByteArray.size_append, lit_size]
        try simp only [List.size_toArray, List.length_cons, List.length_nil]
        omega
      obtain rfl : x = 4 := by omega
      go_wp2_with fail
      go_ret
      refine ⟨_, ?_, rfl, H.out.more (by omega)⟩
      try simp only [ByteArray.size_append, lit_size]
      try simp only [List.size_toArray, List.length_cons, List.length_nil]
      omega
    · go_wp2_with fail
      refine ((ih (k) (by omega)).1 _ _ _ _ _ (by omega) H.out (by omega)).mono ?_
      rintro e v39 ⟨s39, hs39, rfl, hc39⟩
      replace H := Lib.hid hc39
      clear hc39
      go_wp2_with fail
      go_ret
      refine ⟨_, ?_, rfl, H.out.more (by omega)⟩
      try simp only [ByteArray.size_append, lit_size]
      try simp only [List.size_toArray, List.length_cons, List.length_nil]
      omega
  · skip
    by_cases k2 : (k : Int) < 2
    · go_wp2_with fail
      go_ret
      refine ⟨_, ?_, rfl, H.out.more (by omega)⟩
      try simp only [ByteArray.size_append, lit_size]
      try simp only [List.size_toArray, List.length_cons, List.length_nil]
      omega
    go_wp2_with fail
    refine ((ih (k - 1) (by omega)).1 _ _ _ _ _ (by omega) H.out (by omega)).mono ?_
    rintro e v40 ⟨s40, hs40, rfl, hc40⟩
    replace H := Lib.hid hc40
    clear hc40
    go_wp2_with fail
    refine (pick_calls H.out (by omega) (5) (by omega)).mono ?_
    rintro e v41 ⟨x, ⟨x0, x1⟩, rfl, hc41⟩
    replace H := Lib.hid hc41
    clear hc41
    by_cases e0 : x = 0
    · subst e0
      go_wp2_with fail
      refine (dname_calls H.out (by omega)).mono ?_
      rintro e v42 ⟨s42, hs42, rfl, hc42⟩
      replace H := Lib.hid hc42
      clear hc42
      go_wp2_with fail
      refine (dname_calls H.out (by omega)).mono ?_
      rintro e v43 ⟨s43, hs43, rfl, hc43⟩
      replace H := Lib.hid hc43
      clear hc43
      go_wp2_with fail
      go_ret
      refine ⟨_, ?_, rfl, H.out.more (by omega)⟩
      try simp only [ByteArray.size_append, lit_size]
      try simp only [List.size_toArray, List.length_cons, List.length_nil]
      omega
    by_cases e1 : x = 1
    · subst e1
      go_wp2_with fail
      refine (dname_calls H.out (by omega)).mono ?_
      rintro e v44 ⟨s44, hs44, rfl, hc44⟩
      replace H := Lib.hid hc44
      clear hc44
      go_wp2_with fail
      refine (dname_calls H.out (by omega)).mono ?_
      rintro e v45 ⟨s45, hs45, rfl, hc45⟩
      replace H := Lib.hid hc45
      clear hc45
      go_wp2_with fail
      go_ret
      refine ⟨_, ?_, rfl, H.out.more (by omega)⟩
      try simp only [ByteArray.size_append, lit_size]
      try simp only [List.size_toArray, List.length_cons, List.length_nil]
      omega
    by_cases e2 : x = 2
    · subst e2
      go_wp2_with fail
      refine (dname_calls H.out (by omega)).mono ?_
      rintro e v46 ⟨s46, hs46, rfl, hc46⟩
      replace H := Lib.hid hc46
      clear hc46
      go_wp2_with fail
      refine (dname_calls H.out (by omega)).mono ?_
      rintro e v47 ⟨s47, hs47, rfl, hc47⟩
      replace H := Lib.hid hc47
      clear hc47
      go_wp2_with fail
      go_ret
      refine ⟨_, ?_, rfl, H.out.more (by omega)⟩
      try simp only [ByteArray.size_append, lit_size]
      try simp only [List.size_toArray, List.length_cons, List.length_nil]
      omega
    by_cases e3 : x = 3
    · subst e3
      go_wp2_with fail
      refine (dname_calls H.out (by omega)).mono ?_
      rintro e v48 ⟨s48, hs48, rfl, hc48⟩
      replace H := Lib.hid hc48
      clear hc48
      go_wp2_with fail
      refine (dname_calls H.out (by omega)).mono ?_
      rintro e v49 ⟨s49, hs49, rfl, hc49⟩
      replace H := Lib.hid hc49
      clear hc49
      go_wp2_with fail
      go_ret
      refine ⟨_, ?_, rfl, H.out.more (by omega)⟩
      try simp only [ByteArray.size_append, lit_size]
      try simp only [List.size_toArray, List.length_cons, List.length_nil]
      omega
    obtain rfl : x = 4 := by omega
    go_wp2_with fail
    go_ret
    refine ⟨_, ?_, rfl, H.out.more (by omega)⟩
    try simp only [ByteArray.size_append, lit_size]
    try simp only [List.size_toArray, List.length_cons, List.length_nil]
    omega
theorem sure_guard {w0 : World} {g : Nat} {A : Option Addr} {l : List Int} {c : Nat} (k : Nat) (hk : k ≤ 1000) :
    DrawsT 71 w0 g A l c k (100 * k) ∧ DrawsT 95 w0 g A l c k (100 * k + 8) := by
  induction k using Nat.strongRecOn with
  | _ k ih =>
    have h1 := sure_step hk fun j hj => ih j hj (by omega)
    refine ⟨h1, guard_step hk fun j hj => ⟨?_, trivial⟩⟩
    by_cases e : j = k
    · subst e; exact h1
    · exact (ih j (by omega) (by omega)).1

end Go.Proofs.YtjgfgjhaghbehaaGreat.Dr
/- The reference's drawing functions: a process or another text; a process and a name. -/
namespace Go.Proofs.YtjgfgjhaghbehaaGreat.Dr
open Go.RowKit Go.Proofs.YtjgfgjhaghbehaaGreatW.PrintWords Go.Proofs.YtjgfgjhaghbehaaGreatW.PrintLast Go.Proofs.YtjgfgjhaghbehaaGreatW.PrintMore
set_option linter.unusedVariables false
set_option linter.unusedSimpArgs false

def szOf : Value → Nat
  | .string s => s.size
  | _ => 0
set_option maxHeartbeats 4000000 in
set_option maxRecDepth 100000 in
theorem process_calls {w0 wb w : World} {g : Nat} {A : Option Addr} {l : List Int} {c Bd : Nat} (h : Cur w0 wb g A l c Bd w) (hB : Bd ≤ 100000000) :
    Calls Tryz.prog 38 #[.pointer (some ⟨g, 0, none⟩), .int .i64 8, .bool false] w fun e w' => ∃ s : ByteArray, s.size ≤ 400 ∧ e = .returned (.string s) ∧ Cur w0 wb g A l c (Bd + 10000) w' := by
  have H := Lib.hid h
  clear h
  go_enter Tryz.func38, Tryz.ntmps38
  go_wp2_with fail
  refine (pick_calls H.out (by omega) 8 (by omega)).mono ?_
  rintro e v1 ⟨x, ⟨hx0, hx1⟩, rfl, hc1⟩
  replace H := Lib.hid hc1
  clear hc1
  go_wp2_with fail
  refine ((sure_guard (2 + x.toNat) (by omega)).1 _ _ _ _ _ (by omega) H.out (by omega)).mono ?_
  rintro e v2 ⟨s, hs, rfl, hc2⟩
  replace H := Lib.hid (hc2.more (show _ ≤ Bd + 2 + 1000 from by omega))
  clear hc2
  go_wp2_with fail
  refine (pick_calls H.out (by omega) 20 (by omega)).mono ?_
  rintro e v3 ⟨y, ⟨hy0, hy1⟩, rfl, hc3⟩
  replace H := Lib.hid hc3
  clear hc3
  have hs2 : s.size ≤ 60 := by omega
  by_cases e0 : y = 0
  · subst e0
    go_wp2_with fail
    refine (spoilt_calls H.out (by omega) s _ (by omega) (by decide) (by decide)).mono ?_
    rintro e v4 ⟨s4, hs4, rfl, hc4⟩
    replace H := Lib.hid hc4
    clear hc4
    go_wp2_with fail
    go_ret
    exact ⟨_, by omega, rfl, H.out.more (by omega)⟩
  by_cases e1 : y = 1
  · subst e1
    go_wp2_with fail
    go_loopw [7] (fun vt wr => ∃ (q : ByteArray), vt = .string q ∧ q.size ≤ 310 ∧ Cur w0 wb g A l c (Bd + 2000 + q.size) wr) (fun vt _ => 400 - szOf vt)
    case atStart => exact ⟨s, rfl, by omega, H.out.more (by omega)⟩
    case round =>
      obtain ⟨q, rfl, hq, hc⟩ := hrel
      replace H := Lib.hid hc
      clear hc
      go_wp2_with fail
      refine (pick_calls H.out (by omega) 5 (by omega)).mono ?_
      rintro e v4 ⟨z, ⟨hz0, hz1⟩, rfl, hc4⟩
      replace H := Lib.hid hc4
      clear hc4
      by_cases hlt : (q.size : Int) < 300 + z
      · go_wp2_with fail
        go_roundw
        case rel => exact ⟨_, rfl, by simp only [ByteArray.size_append, lit_size, List.size_toArray, List.length_cons, List.length_nil]; omega, H.out.more (by simp only [ByteArray.size_append, lit_size, List.size_toArray, List.length_cons, List.length_nil]; omega)⟩
        case measure => simp only [szOf, ByteArray.size_append, lit_size, List.size_toArray, List.length_cons, List.length_nil]; omega
      · go_wp2_with fail
        go_ret
        exact ⟨_, by omega, rfl, H.out.more (by omega)⟩
  by_cases e2 : y = 2
  · subst e2
    go_wp2_with fail
    refine ((sure_guard 25 (by omega)).1 _ _ _ _ _ (by omega) H.out (by omega)).mono ?_
    rintro e v4 ⟨s4, hs4, rfl, hc4⟩
    replace H := Lib.hid hc4
    clear hc4
    go_wp2_with fail
    go_ret
    exact ⟨_, by omega, rfl, H.out.more (by omega)⟩
  go_wp2_with fail
  go_ret
  exact ⟨_, by omega, rfl, H.out.more (by omega)⟩

end Go.Proofs.YtjgfgjhaghbehaaGreat.Dr
/- The reference's drawing functions: a process and a name; from any bytes. (Written by gen_drawq.py.) -/
namespace Go.Proofs.YtjgfgjhaghbehaaGreat.Dr
open Go.RowKit Go.Proofs.YtjgfgjhaghbehaaGreatW.PrintWords Go.Proofs.YtjgfgjhaghbehaaGreatW.PrintLast Go.Proofs.YtjgfgjhaghbehaaGreatW.PrintMore Go.Proofs.YtjgfgjhaghbehaaGreat.Rf Go.Proofs.YtjgfgjhaghbehaaGreat.Pterm Go.Proofs.YtjgfgjhaghbehaaGreat.PsoPlace
set_option linter.unusedVariables false
set_option linter.unusedSimpArgs false

theorem B_back (s : ByteArray) : ∃ l : List UInt8, s = B l := ⟨s.data.toList, by unfold B; simp⟩
set_option maxHeartbeats 8000000 in
set_option maxRecDepth 100000 in
theorem sorted_calls {w0 wb w : World} {g : Nat} {A : Option Addr} {l : List Int} {c Bd : Nat} (h : Cur w0 wb g A l c Bd w) (hB : Bd ≤ 50000000) :
    Calls Tryz.prog 20 #[.pointer (some ⟨g, 0, none⟩)] w fun e w' => ∃ s a : ByteArray, s.size ≤ 400 ∧ a.size ≤ 1 ∧ e = .returned (.tuple #[.string s, .string a]) ∧ Cur w0 wb g A l c (Bd + 11000) w' := by
  have H := Lib.hid h
  clear h
  go_enter Tryz.func20, Tryz.ntmps20
  go_wp2_with fail
  refine (process_calls H.out (by omega)).mono ?_
  rintro e v1 ⟨s, hs, rfl, hc1⟩
  replace H := Lib.hid hc1
  clear hc1
  go_wp2_with fail
  refine (one_calls H.out (by omega) 3 (by omega)).mono ?_
  rintro e v2 ⟨b, rfl, hc2⟩
  replace H := Lib.hid (hc2.more (show _ ≤ Bd + 10010 from by omega))
  clear hc2
  rcases b with _ | _
  · go_wp2_with fail
    obtain ⟨L, rfl⟩ := B_back s
    have hgd := good_f L 3000 (by omega)
    rcases hok : readOk L with _ | _
    · rw [hok] at hgd
      refine (spec_tmGood.calls 3000 (B L) _ _ hgd).mono ?_
      rintro e v4 ⟨rfl, hb⟩
      replace H := Lib.hid (H.out.later hb)
      clear hgd hb hok
      go_wp2_with fail
      refine (dname_calls H.out (by omega)).mono ?_
      rintro e v7 ⟨sn, hsn, rfl, hc7⟩
      replace H := Lib.hid hc7
      clear hc7
      go_wp2_with fail
      go_ret2
      exact ⟨_, _, by omega, by omega, rfl, H.out.more (by omega)⟩
    have HFR : Hid (spec_tmFree.f 3000 (B L) = some (B (sortL (parsed L).1.fr))) := by
      obtain ⟨g1, g2, g3, g4⟩ := read_good hok
      have := frees_text (parsed L).1 3000 g3 (by rw [← g2]; omega) (by omega)
      rw [← g2] at this; exact this
    have HLL : (sortL (parsed L).1.fr).length ≤ 26 := sort_len _
    generalize sortL (parsed L).1.fr = F at HFR HLL
    rw [hok] at hgd
    refine (spec_tmGood.calls 3000 (B L) _ _ hgd).mono ?_
    rintro e v4 ⟨rfl, hb⟩
    replace H := Lib.hid (H.out.later hb)
    clear hgd hb hok
    go_wp2_with fail
    refine (one_calls H.out (by omega) 5 (by omega)).mono ?_
    rintro e v5 ⟨b, rfl, hc5⟩
    replace H := Lib.hid hc5
    clear hc5
    rcases b with _ | _
    · go_wp2_with fail
      refine (spec_tmFree.calls 3000 (B L) _ _ HFR.out).mono ?_
      rintro e v6 ⟨rfl, hb⟩
      replace H := Lib.hid (H.out.later hb)
      clear hb HFR
      rcases F with _ | ⟨f0, F⟩
      · have hz : (B []).toList = [] := B_toList []
        go_wp2_with fail
        refine (dname_calls H.out (by omega)).mono ?_
        rintro e v7 ⟨sn, hsn, rfl, hc7⟩
        replace H := Lib.hid hc7
        clear hc7
        go_wp2_with fail
        go_ret2
        exact ⟨_, _, by omega, by omega, rfl, H.out.more (by omega)⟩
      have hz : (B (f0 :: F)).toList = f0 :: F := B_toList _
      have hz2 : (B (f0 :: F)).size = F.length + 1 := by rw [B_size]; rfl
      have HLZ : F.length ≤ 25 := by simpa using HLL
      clear HLL
      generalize B (f0 :: F) = FF at hz hz2 ⊢
      go_wp2_with fail
      refine (pick_calls H.out (by omega) ((F.length : Int) + 1) (by omega)).mono ?_
      rintro e v7 ⟨i, ⟨hi0, hi1⟩, rfl, hc7⟩
      replace H := Lib.hid hc7
      clear hc7
      obtain ⟨i, rfl⟩ : ∃ t : Nat, i = t := ⟨i.toNat, by omega⟩
      have hw1 : IntKind.i64.wrap ((i : Int) + 1) = (i : Int) + 1 := by rw [IntKind.wrap_i64]; omega
      have hsl : ∀ W : World, (Instr.slice 9 (.string FF) (some (.int .i64 (i : Int))) (some (.int .i64 ((i : Int) + 1))) none).run Tryz.prog W = .ok (.string (FF.extract i (i + 1))) W := fun W => run_slice_string W 9 FF .i64 .i64 (i : Int) ((i : Int) + 1) Tryz.underlying9 (by omega) (by omega) (by omega)
      go_wp2_with fail
      go_quiet (fail)
      go_wp2_with fail
      go_ret2
      exact ⟨_, _, by omega, by simp only [ByteArray.size_extract]; omega, rfl, (H.out.drewN _).more (by omega)⟩
    · go_wp2_with fail
      refine (dname_calls H.out (by omega)).mono ?_
      rintro e v7 ⟨sn, hsn, rfl, hc7⟩
      replace H := Lib.hid hc7
      clear hc7
      go_wp2_with fail
      go_ret2
      exact ⟨_, _, by omega, by omega, rfl, H.out.more (by omega)⟩
  · go_wp2_with fail
    refine (of_calls (H.out.later (below_alloc (Below.refl _ _) _)) (by omega) (K := 30) (by omega) (by omega) (rows_lit v2 _ _ 8 30 ?_) (Ne.symm (Nat.ne_of_lt H.out.lt))).mono ?_
    · intro j hj
      match j, hj with
      | 0, _ => exact ⟨_, rfl, by decide⟩
      | 1, _ => exact ⟨_, rfl, by decide⟩
      | 2, _ => exact ⟨_, rfl, by decide⟩
      | 3, _ => exact ⟨_, rfl, by decide⟩
      | 4, _ => exact ⟨_, rfl, by decide⟩
      | 5, _ => exact ⟨_, rfl, by decide⟩
      | 6, _ => exact ⟨_, rfl, by decide⟩
      | 7, _ => exact ⟨_, rfl, by decide⟩
    rintro e v3 ⟨s2, hs2, rfl, hc3⟩
    replace H := Lib.hid (hc3.more (show _ ≤ Bd + 10020 from by omega))
    clear hc3
    go_wp2_with fail
    obtain ⟨L, rfl⟩ := B_back s2
    have hgd := good_f L 3000 (by omega)
    rcases hok : readOk L with _ | _
    · rw [hok] at hgd
      refine (spec_tmGood.calls 3000 (B L) _ _ hgd).mono ?_
      rintro e v4 ⟨rfl, hb⟩
      replace H := Lib.hid (H.out.later hb)
      clear hgd hb hok
      go_wp2_with fail
      refine (dname_calls H.out (by omega)).mono ?_
      rintro e v7 ⟨sn, hsn, rfl, hc7⟩
      replace H := Lib.hid hc7
      clear hc7
      go_wp2_with fail
      go_ret2
      exact ⟨_, _, by omega, by omega, rfl, H.out.more (by omega)⟩
    have HFR : Hid (spec_tmFree.f 3000 (B L) = some (B (sortL (parsed L).1.fr))) := by
      obtain ⟨g1, g2, g3, g4⟩ := read_good hok
      have := frees_text (parsed L).1 3000 g3 (by rw [← g2]; omega) (by omega)
      rw [← g2] at this; exact this
    have HLL : (sortL (parsed L).1.fr).length ≤ 26 := sort_len _
    generalize sortL (parsed L).1.fr = F at HFR HLL
    rw [hok] at hgd
    refine (spec_tmGood.calls 3000 (B L) _ _ hgd).mono ?_
    rintro e v4 ⟨rfl, hb⟩
    replace H := Lib.hid (H.out.later hb)
    clear hgd hb hok
    go_wp2_with fail
    refine (one_calls H.out (by omega) 5 (by omega)).mono ?_
    rintro e v5 ⟨b, rfl, hc5⟩
    replace H := Lib.hid hc5
    clear hc5
    rcases b with _ | _
    · go_wp2_with fail
      refine (spec_tmFree.calls 3000 (B L) _ _ HFR.out).mono ?_
      rintro e v6 ⟨rfl, hb⟩
      replace H := Lib.hid (H.out.later hb)
      clear hb HFR
      rcases F with _ | ⟨f0, F⟩
      · have hz : (B []).toList = [] := B_toList []
        go_wp2_with fail
        refine (dname_calls H.out (by omega)).mono ?_
        rintro e v7 ⟨sn, hsn, rfl, hc7⟩
        replace H := Lib.hid hc7
        clear hc7
        go_wp2_with fail
        go_ret2
        exact ⟨_, _, by omega, by omega, rfl, H.out.more (by omega)⟩
      have hz : (B (f0 :: F)).toList = f0 :: F := B_toList _
      have hz2 : (B (f0 :: F)).size = F.length + 1 := by rw [B_size]; rfl
      have HLZ : F.length ≤ 25 := by simpa using HLL
      clear HLL
      generalize B (f0 :: F) = FF at hz hz2 ⊢
      go_wp2_with fail
      refine (pick_calls H.out (by omega) ((F.length : Int) + 1) (by omega)).mono ?_
      rintro e v7 ⟨i, ⟨hi0, hi1⟩, rfl, hc7⟩
      replace H := Lib.hid hc7
      clear hc7
      obtain ⟨i, rfl⟩ : ∃ t : Nat, i = t := ⟨i.toNat, by omega⟩
      have hw1 : IntKind.i64.wrap ((i : Int) + 1) = (i : Int) + 1 := by rw [IntKind.wrap_i64]; omega
      have hsl : ∀ W : World, (Instr.slice 9 (.string FF) (some (.int .i64 (i : Int))) (some (.int .i64 ((i : Int) + 1))) none).run Tryz.prog W = .ok (.string (FF.extract i (i + 1))) W := fun W => run_slice_string W 9 FF .i64 .i64 (i : Int) ((i : Int) + 1) Tryz.underlying9 (by omega) (by omega) (by omega)
      go_wp2_with fail
      go_quiet (fail)
      go_wp2_with fail
      go_ret2
      exact ⟨_, _, by omega, by simp only [ByteArray.size_extract]; omega, rfl, (H.out.drewN _).more (by omega)⟩
    · go_wp2_with fail
      refine (dname_calls H.out (by omega)).mono ?_
      rintro e v7 ⟨sn, hsn, rfl, hc7⟩
      replace H := Lib.hid hc7
      clear hc7
      go_wp2_with fail
      go_ret2
      exact ⟨_, _, by omega, by omega, rfl, H.out.more (by omega)⟩

end Go.Proofs.YtjgfgjhaghbehaaGreat.Dr
/- The reference's drawing functions, from any bytes: a process and a name. -/
namespace Go.Proofs.YtjgfgjhaghbehaaGreat.Dr
open Go.RowKit Go.Proofs.YtjgfgjhaghbehaaGreatW.PrintWords Go.Proofs.YtjgfgjhaghbehaaGreatW.PrintLast Go.Proofs.YtjgfgjhaghbehaaGreatW.PrintMore
set_option linter.unusedVariables false
set_option linter.unusedSimpArgs false

theorem cur_new {w : World} {A : Option Addr} {l : List Int} {c : Nat} (hc : Kd.C (Kd.int .u8) w A l.length l) (hb : ∀ x, x ∈ l → 0 ≤ x ∧ x ≤ 255) (hf : l.length ≤ 100000000) (e : TypeId) :
    Cur w (w.alloc (.cells #[.slice A l.length c, .int .i64 0, .int .u64 0] e)) w.heap.size A l c 0 (w.alloc (.cells #[.slice A l.length c, .int .i64 0, .int .u64 0] e)) :=
  ⟨hc, hb, hf, ⟨0, 0, e, Nat.le_refl _, by omega, by omega, heap_alloc_new w _⟩, below_alloc (Below.refl _ _) _, Nat.le_refl _, .refl _ _⟩
set_option maxHeartbeats 1000000 in
theorem drawLevel_calls {w : World} {A : Option Addr} {l : List Int} {c : Nat} (hc : Kd.C (Kd.int .u8) w A l.length l) (hb : ∀ x, x ∈ l → 0 ≤ x ∧ x ≤ 255) (hf : l.length ≤ 100000000) :
    Calls Tryz.prog 5 #[.slice A l.length c] w fun e w' => ∃ p a : List UInt8, p.length ≤ 400 ∧ a.length ≤ 1 ∧ e = .returned (.tuple #[.string (B p), .string (B a)]) ∧ Below w.heap.size w w' := by
  have H := Lib.hid (fun e => cur_new (c := c) hc hb hf e)
  clear hc hb
  go_enter Tryz.func5, Tryz.ntmps5
  go_wp2_with fail
  refine (sorted_calls (H.out _) (by omega)).mono ?_
  rintro e w1 ⟨s, t, hs, ht, rfl, hc1⟩
  replace H := Lib.hid hc1.below
  clear hc1
  obtain ⟨p, rfl⟩ := B_back s
  obtain ⟨a, rfl⟩ := B_back t
  have hp := Lib.hid (B_size p ▸ hs)
  have ha := Lib.hid (B_size a ▸ ht)
  clear hs ht
  go_wp2_with fail
  go_ret2
  exact ⟨p, a, hp.out, ha.out, rfl, H.out⟩
set_option maxHeartbeats 1000000 in
theorem drawUses_calls {w : World} {A : Option Addr} {l : List Int} {c : Nat} (hc : Kd.C (Kd.int .u8) w A l.length l) (hb : ∀ x, x ∈ l → 0 ≤ x ∧ x ≤ 255) (hf : l.length ≤ 100000000) :
    Calls Tryz.prog 12 #[.slice A l.length c] w fun e w' => ∃ p a : List UInt8, p.length ≤ 400 ∧ a.length ≤ 1 ∧ e = .returned (.tuple #[.string (B p), .string (B a)]) ∧ Below w.heap.size w w' := by
  have H := Lib.hid (drawLevel_calls (c := c) hc hb hf)
  clear hc hb
  go_enter Tryz.func12, Tryz.ntmps12
  go_wp2_with fail
  refine H.out.mono ?_
  rintro e w1 ⟨p, a, hp, ha, rfl, hb⟩
  have hp := Lib.hid hp
  have ha := Lib.hid ha
  have hb := Lib.hid hb
  go_wp2_with fail
  go_ret2
  exact ⟨p, a, hp.out, ha.out, rfl, hb.out⟩
def gin (l : List UInt8) (c : UInt8) : Bool := l.any (· == c)
set_option maxHeartbeats 2000000 in
theorem gIn_calls (l : List UInt8) (c : UInt8) (w : World) (hl : l.length ≤ 1000000) :
    Calls Tryz.prog 19 #[.string (B l), .int .u8 (vl c)] w fun e w' => e = .returned (.bool (gin l c)) ∧ w' = w := by
  have hz : (B l).size = l.length := B_size l
  go_enter Tryz.func19, Tryz.ntmps19
  go_wp2_with fail
  go_loop [5] (fun i => ∃ k : Nat, i = .int .i64 k ∧ k ≤ l.length ∧ Hid (gin l c = gin (l.drop k) c)) (fun i => l.length - (intOf i).toNat)
  case atStart => exact ⟨0, rfl, Nat.zero_le _, rfl⟩
  case round =>
    obtain ⟨k, rfl, hk, hd⟩ := hrel
    by_cases hlt : k < l.length
    · have hby := byte_of l k hlt
      have HD : Hid (gin l c = (l[k] == c || gin (l.drop (k + 1)) c)) := by
        rw [Hid, hd.out, List.drop_eq_getElem_cons hlt]; rfl
      have hw1 : IntKind.i64.wrap ((k : Int) + 1) = (k : Int) + 1 := by rw [IntKind.wrap_i64]; omega
      generalize l[k] = x at hby HD
      clear hd
      by_cases he : vl x = vl c
      · have HX : Hid (x = c) := vl_inj.mp he
        have HF : Hid (gin l c = true) := by rw [Hid, HD.out, HX.out]; simp
        clear HD
        go_wp2_with fail
        go_ret
        exact ⟨by rw [HF.out]; rfl, rfl⟩
      · have HX : Hid ((x == c) = false) := by rw [Hid, beq_eq_false_iff_ne]; exact fun e => he (by rw [e])
        have HF : Hid (gin l c = gin (l.drop (k + 1)) c) := by rw [Hid, HD.out, HX.out, Bool.false_or]
        clear HD
        go_wp2_with fail
        go_round
        case rel => exact ⟨k + 1, by go_num, by omega, HF⟩
        case measure => simp [intOf]; omega
    · have hkl : k = l.length := by omega
      have HF : Hid (gin l c = false) := by rw [Hid, hd.out, hkl, List.drop_length]; rfl
      clear hd
      go_wp2_with fail
      go_ret
      exact ⟨by rw [HF.out]; rfl, rfl⟩

end Go.Proofs.YtjgfgjhaghbehaaGreat.Dr
