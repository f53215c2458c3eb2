/- The walk of count: how often a name is used. -/
import Derived.Test.YtjgfgjhaghbehaaGreatUsesP
import Derived.Test.YtjgfgjhaghbehaaGreatFreeW
import Derived.Deep.Cut
import Derived.Deep.CutRange
import Derived.Deep.CutBlock
import Derived.Deep.DeepCutAuto
namespace Go.Proofs.YtjgfgjhaghbehaaGreat
open Go.RowKit Go.Proofs.YtjgfgjhaghbehaaGreatW.PrintWords Go.Proofs.YtjgfgjhaghbehaaGreatW.PrintMore
set_option linter.unusedVariables false
set_option linter.unusedSimpArgs false

def UsAt (w : World) (g : Nat) (u : Us) : Prop := ∃ e, w.heap[g]? = some (.cells #[.int .i64 u.s, .int .i64 u.r, .int .i64 u.h, .int .i64 u.m, .int .i64 u.g] e (0, 0))
theorem grown_trans {a w w' : World} {row : Option Nat} (h : a.grownBy w row) (k : w.grownBy w' row) : a.grownBy w' row :=
  ⟨k.os.trans h.os, k.tape.trans h.tape, k.output.trans h.output, Nat.le_trans h.size k.size, fun i hi hr => (k.block i (Nat.lt_of_lt_of_le hi h.size) hr).trans (h.block i hi hr)⟩
theorem grown_below {w w' : World} {row : Option Nat} (h : Below w.heap.size w w') : w.grownBy w' row := by
  obtain ⟨a, b, c, d, e⟩ := h
  exact ⟨a, b, c, d, fun i hi _ => e i hi⟩
theorem grown_set (w : World) (g i : Nat) (v : Value) : w.grownBy (w.setCell ⟨g, i, none⟩ v) (some g) :=
  ⟨rfl, rfl, rfl, by simp [World.setCell], fun j _ hj => Below.heap_setCell w _ _ j (fun h => hj (by rw [h]))⟩

set_option maxHeartbeats 2000000 in
theorem add_calls {w : World} {g A Ub i : Nat} {u : Us} {rep : Bool} (hi : i < 4) (hu : UsAt w g u) (hA : ∃ e, w.heap[A]? = some (.cells #[.bool rep] e (0, 0))) (hU : ∃ e, w.heap[Ub]? = some (.cells #[.pointer (some ⟨g, 0, none⟩)] e (0, 0))) (nA : g ≠ A) (nU : g ≠ Ub) (hb : u.bd 1000000) :
    Calls Tryz.prog 94 #[.pointer (some ⟨g, i, none⟩), .pointer (some ⟨A, 0, none⟩), .pointer (some ⟨Ub, 0, none⟩)] w fun e w' => e = .returned (.tuple #[]) ∧ UsAt w' g (u.inc i rep) ∧ w.grownBy w' (some g) := by
  obtain ⟨s, r, h, m, gg⟩ := u
  obtain ⟨eg, hg⟩ := hu
  obtain ⟨eA, hA⟩ := hA
  obtain ⟨eU, hU⟩ := hU
  obtain ⟨b1, b2, b3, b4, b5⟩ := hb
  simp only at b1 b2 b3 b4 b5 hg
  rcases (by omega : i = 0 ∨ i = 1 ∨ i = 2 ∨ i = 3) with rfl | rfl | rfl | rfl
  · skip
    have c0 : w.cell? ⟨g, 0, none⟩ = some (.int .i64 s) := blk_cell hg 0
    have f0 := blk_frozen hg 0
    have hp := fun x => blk_put (cs' := #[.int .i64 x, .int .i64 r, .int .i64 h, .int .i64 m, .int .i64 gg]) hg 0 (.int .i64 x) rfl
    have a1 : ∀ x, (w.setCell ⟨g, 0, none⟩ x).cell? ⟨A, 0, none⟩ = some (.bool rep) := fun x => blk_cell (blk_far hA (by simpa using nA.symm) x) 0
    have u1 : ∀ x, (w.setCell ⟨g, 0, none⟩ x).cell? ⟨Ub, 0, none⟩ = some (.pointer (some ⟨g, 0, none⟩)) := fun x => blk_cell (blk_far hU (by simpa using nU.symm) x) 0
    have g1 : ∀ x, (w.setCell ⟨g, 0, none⟩ (.int .i64 x)).cell? ⟨g, 4, none⟩ = some (.int .i64 gg) := fun x => blk_cell (hp x) 4
    have k1 : ∀ x, (w.setCell ⟨g, 0, none⟩ (.int .i64 x)).frozen? ⟨g, 4, none⟩ = false := fun x => blk_frozen (hp x) 4
    have HP := Lib.hid hp
    have HG := Lib.hid hg
    clear hp hg hA hU
    cases rep with
    | false =>
      go_enter Tryz.func94, Tryz.ntmps94
      go_wp2_with fail
      go_end0
      exact ⟨rfl, ⟨eg, by simpa [Us.inc] using HP.out _⟩, grown_set _ _ _ _⟩
    | true =>
      go_enter Tryz.func94, Tryz.ntmps94
      go_wp2_with fail
      go_end0
      refine ⟨rfl, ⟨eg, ?_⟩, grown_trans (grown_set _ _ _ _) (grown_set _ _ _ _)⟩
      have := blk_put (cs' := #[.int .i64 (s + 1), .int .i64 r, .int .i64 h, .int .i64 m, .int .i64 (gg + 1)]) (HP.out (s + 1)) 4 (.int .i64 (gg + 1)) rfl
      simpa [Us.inc] using this
  · skip
    have c0 : w.cell? ⟨g, 1, none⟩ = some (.int .i64 r) := blk_cell hg 1
    have f0 := blk_frozen hg 1
    have hp := fun x => blk_put (cs' := #[.int .i64 s, .int .i64 x, .int .i64 h, .int .i64 m, .int .i64 gg]) hg 1 (.int .i64 x) rfl
    have a1 : ∀ x, (w.setCell ⟨g, 1, none⟩ x).cell? ⟨A, 0, none⟩ = some (.bool rep) := fun x => blk_cell (blk_far hA (by simpa using nA.symm) x) 0
    have u1 : ∀ x, (w.setCell ⟨g, 1, none⟩ x).cell? ⟨Ub, 0, none⟩ = some (.pointer (some ⟨g, 0, none⟩)) := fun x => blk_cell (blk_far hU (by simpa using nU.symm) x) 0
    have g1 : ∀ x, (w.setCell ⟨g, 1, none⟩ (.int .i64 x)).cell? ⟨g, 4, none⟩ = some (.int .i64 gg) := fun x => blk_cell (hp x) 4
    have k1 : ∀ x, (w.setCell ⟨g, 1, none⟩ (.int .i64 x)).frozen? ⟨g, 4, none⟩ = false := fun x => blk_frozen (hp x) 4
    have HP := Lib.hid hp
    have HG := Lib.hid hg
    clear hp hg hA hU
    cases rep with
    | false =>
      go_enter Tryz.func94, Tryz.ntmps94
      go_wp2_with fail
      go_end0
      exact ⟨rfl, ⟨eg, by simpa [Us.inc] using HP.out _⟩, grown_set _ _ _ _⟩
    | true =>
      go_enter Tryz.func94, Tryz.ntmps94
      go_wp2_with fail
      go_end0
      refine ⟨rfl, ⟨eg, ?_⟩, grown_trans (grown_set _ _ _ _) (grown_set _ _ _ _)⟩
      have := blk_put (cs' := #[.int .i64 s, .int .i64 (r + 1), .int .i64 h, .int .i64 m, .int .i64 (gg + 1)]) (HP.out (r + 1)) 4 (.int .i64 (gg + 1)) rfl
      simpa [Us.inc] using this
  · skip
    have c0 : w.cell? ⟨g, 2, none⟩ = some (.int .i64 h) := blk_cell hg 2
    have f0 := blk_frozen hg 2
    have hp := fun x => blk_put (cs' := #[.int .i64 s, .int .i64 r, .int .i64 x, .int .i64 m, .int .i64 gg]) hg 2 (.int .i64 x) rfl
    have a1 : ∀ x, (w.setCell ⟨g, 2, none⟩ x).cell? ⟨A, 0, none⟩ = some (.bool rep) := fun x => blk_cell (blk_far hA (by simpa using nA.symm) x) 0
    have u1 : ∀ x, (w.setCell ⟨g, 2, none⟩ x).cell? ⟨Ub, 0, none⟩ = some (.pointer (some ⟨g, 0, none⟩)) := fun x => blk_cell (blk_far hU (by simpa using nU.symm) x) 0
    have g1 : ∀ x, (w.setCell ⟨g, 2, none⟩ (.int .i64 x)).cell? ⟨g, 4, none⟩ = some (.int .i64 gg) := fun x => blk_cell (hp x) 4
    have k1 : ∀ x, (w.setCell ⟨g, 2, none⟩ (.int .i64 x)).frozen? ⟨g, 4, none⟩ = false := fun x => blk_frozen (hp x) 4
    have HP := Lib.hid hp
    have HG := Lib.hid hg
    clear hp hg hA hU
    cases rep with
    | false =>
      go_enter Tryz.func94, Tryz.ntmps94
      go_wp2_with fail
      go_end0
      exact ⟨rfl, ⟨eg, by simpa [Us.inc] using HP.out _⟩, grown_set _ _ _ _⟩
    | true =>
      go_enter Tryz.func94, Tryz.ntmps94
      go_wp2_with fail
      go_end0
      refine ⟨rfl, ⟨eg, ?_⟩, grown_trans (grown_set _ _ _ _) (grown_set _ _ _ _)⟩
      have := blk_put (cs' := #[.int .i64 s, .int .i64 r, .int .i64 (h + 1), .int .i64 m, .int .i64 (gg + 1)]) (HP.out (h + 1)) 4 (.int .i64 (gg + 1)) rfl
      simpa [Us.inc] using this
  · skip
    have c0 : w.cell? ⟨g, 3, none⟩ = some (.int .i64 m) := blk_cell hg 3
    have f0 := blk_frozen hg 3
    have hp := fun x => blk_put (cs' := #[.int .i64 s, .int .i64 r, .int .i64 h, .int .i64 x, .int .i64 gg]) hg 3 (.int .i64 x) rfl
    have a1 : ∀ x, (w.setCell ⟨g, 3, none⟩ x).cell? ⟨A, 0, none⟩ = some (.bool rep) := fun x => blk_cell (blk_far hA (by simpa using nA.symm) x) 0
    have u1 : ∀ x, (w.setCell ⟨g, 3, none⟩ x).cell? ⟨Ub, 0, none⟩ = some (.pointer (some ⟨g, 0, none⟩)) := fun x => blk_cell (blk_far hU (by simpa using nU.symm) x) 0
    have g1 : ∀ x, (w.setCell ⟨g, 3, none⟩ (.int .i64 x)).cell? ⟨g, 4, none⟩ = some (.int .i64 gg) := fun x => blk_cell (hp x) 4
    have k1 : ∀ x, (w.setCell ⟨g, 3, none⟩ (.int .i64 x)).frozen? ⟨g, 4, none⟩ = false := fun x => blk_frozen (hp x) 4
    have HP := Lib.hid hp
    have HG := Lib.hid hg
    clear hp hg hA hU
    cases rep with
    | false =>
      go_enter Tryz.func94, Tryz.ntmps94
      go_wp2_with fail
      go_end0
      exact ⟨rfl, ⟨eg, by simpa [Us.inc] using HP.out _⟩, grown_set _ _ _ _⟩
    | true =>
      go_enter Tryz.func94, Tryz.ntmps94
      go_wp2_with fail
      go_end0
      refine ⟨rfl, ⟨eg, ?_⟩, grown_trans (grown_set _ _ _ _) (grown_set _ _ _ _)⟩
      have := blk_put (cs' := #[.int .i64 s, .int .i64 r, .int .i64 h, .int .i64 (m + 1), .int .i64 (gg + 1)]) (HP.out (m + 1)) 4 (.int .i64 (gg + 1)) rfl
      simpa [Us.inc] using this

structure CS (w0 wb wc : World) (g A Ub : Nat) (u : Us) (rep : Bool) : Prop where
  below : Below w0.heap.size w0 wc
  us : UsAt wc g u
  ag : ∃ e, wc.heap[A]? = some (.cells #[.bool rep] e (0, 0))
  ub : ∃ e, wc.heap[Ub]? = some (.cells #[.pointer (some ⟨g, 0, none⟩)] e (0, 0))
  grown : wb.grownBy wc (some g)
  g0 : w0.heap.size ≤ g
  nA : g ≠ A
  nU : g ≠ Ub
theorem below_of_grown {w0 w w' : World} {g : Nat} (h : Below w0.heap.size w0 w) (k : w.grownBy w' (some g)) (hg : w0.heap.size ≤ g) : Below w0.heap.size w0 w' := by
  obtain ⟨p, q, r, t, u⟩ := h
  exact ⟨k.os.trans p, k.tape.trans q, k.output.trans r, Nat.le_trans t k.size, fun i hi => (k.block i (by omega) (by intro h; injection h; omega)).trans (u i hi)⟩
theorem CS.step {w0 wb wc w' : World} {g A Ub : Nat} {u u' : Us} {rep : Bool} (h : CS w0 wb wc g A Ub u rep) (hu : UsAt w' g u') (hg : wc.grownBy w' (some g)) : CS w0 wb w' g A Ub u' rep := by
  obtain ⟨h1, h2, ⟨e, h3⟩, ⟨e', h4⟩, h5, h6, h7, h8⟩ := h
  exact ⟨below_of_grown h1 hg h6, hu, ⟨e, (hg.block _ (blk_lt h3) (by intro h; injection h; omega)).trans h3⟩, ⟨e', (hg.block _ (blk_lt h4) (by intro h; injection h; omega)).trans h4⟩, grown_trans h5 hg, h6, h7, h8⟩
theorem CS.start {w0 w : World} {g : Nat} {u : Us} (rep : Bool) (hb : Below w0.heap.size w0 w) (hg : w0.heap.size ≤ g) (hu : UsAt w g u) (e1 e2 : TypeId) :
    CS w0 w ((w.alloc (.cells #[.pointer (some ⟨g, 0, none⟩)] e1)).alloc (.cells #[.bool rep] e2)) g (w.heap.size + 1) w.heap.size u rep := by
  obtain ⟨e, hu⟩ := hu
  have hlt := blk_lt hu
  have hA : ((w.alloc (.cells #[.pointer (some ⟨g, 0, none⟩)] e1)).alloc (.cells #[.bool rep] e2)).heap[w.heap.size + 1]? = some (.cells #[.bool rep] e2 (0, 0)) := by
    have := heap_alloc_new (w.alloc (.cells #[.pointer (some ⟨g, 0, none⟩)] e1)) (.cells #[.bool rep] e2)
    simpa using this
  have hbb : Below w.heap.size w ((w.alloc (.cells #[.pointer (some ⟨g, 0, none⟩)] e1)).alloc (.cells #[.bool rep] e2)) := ((Below.refl w.heap.size w).alloc (Nat.le_refl _) _).alloc (by simp) _
  exact ⟨below_then hb hb.size hbb, ⟨e, blk_alloc (blk_alloc hu _) _⟩, ⟨e2, hA⟩, ⟨e1, blk_alloc (heap_alloc_new w _) _⟩, grown_below hbb, hg, by omega, by omega⟩
theorem CS.rep {w0 wb wc : World} {g A Ub : Nat} {u : Us} {rep : Bool} (h : CS w0 wb wc g A Ub u rep) (v : Bool) (hA : wb.heap.size ≤ A) (hA0 : w0.heap.size ≤ A) (hn : A ≠ Ub) : CS w0 wb (wc.setCell ⟨A, 0, none⟩ (.bool v)) g A Ub u v := by
  obtain ⟨h1, ⟨e0, h2⟩, ⟨e, h3⟩, ⟨e', h4⟩, h5, h6, h7, h8⟩ := h
  refine ⟨h1.setCell hA0 _, ⟨e0, blk_far h2 (by simpa using h7) _⟩, ⟨e, blk_set h3 0 _⟩, ⟨e', blk_far h4 (by simpa using hn.symm) _⟩, ?_, h6, h7, h8⟩
  exact ⟨h5.os, h5.tape, h5.output, by simpa [World.setCell] using h5.size, fun j hj hr => (Below.heap_setCell wc _ _ j (by simp; omega)).trans (h5.block j hj hr)⟩

def CountUpto (a : UInt8) (n : Nat) : Prop := ∀ (t : Tm) (w0 w : World) (N x g b : Nat) (u : Us) (rep : Bool), t.size ≤ n → n ≤ 10000 → Wf isLet t → Lies w0 N t x → Below w0.heap.size w0 w → w0.heap.size ≤ g → UsAt w g u → u.bd b → b + 2 * t.size ≤ 1000000 →
    Calls Tryz.prog 69 #[.pointer (some ⟨g, 0, none⟩), .pointer (some ⟨x, 0, none⟩), .int .u8 (vl a), .bool rep] w fun e w' => e = .returned (.tuple #[]) ∧ UsAt w' g (usF a rep t u) ∧ w.grownBy w' (some g)

set_option maxHeartbeats 4000000 in
set_option maxRecDepth 100000 in
theorem count_any (a : UInt8) (n : Nat) : CountUpto a n := by
  induction n with
  | zero => intro t w0 w N x g b u rep h; have := t.size_pos; omega
  | succ n ih =>
    intro t w0 w N x g b u rep hs hn hw hl hb hg hu hbd hbs
    obtain ⟨o, cap, c0, c1, c2, c3, hk⟩ := hl.at
    have hbx : x < w0.heap.size := hl.lt
    have hlen : t.kids.length ≤ 2 := by cases t <;> simp [Tm.kids]
    have C0 := Lib.hid c0
    have C1 := Lib.hid c1
    have C2 := Lib.hid c2
    have C3 := Lib.hid c3
    have HK := Lib.hid hk
    have HU := Lib.hid (us_kids a rep hw u)
    have HW := Lib.hid hw
    have HBD := Lib.hid hbd
    have HS : Hid (∀ e1 e2 W, W = (w.alloc (.cells #[.pointer (some ⟨g, 0, none⟩)] e1)).alloc (.cells #[.bool rep] e2) → CS w0 w W g (w.heap.size + 1) w.heap.size u rep) := fun e1 e2 W hW => by rw [hW]; exact CS.start rep hb hg hu e1 e2
    clear c0 c1 c2 c3 hk hl hu hbd hw
    go_enter Tryz.func69, Tryz.ntmps69
    go_upto_region 1 with fail
    obtain ⟨W, hW⟩ : ∃ W, W = (w.alloc (.cells #[.pointer (some ⟨g, 0, none⟩)] 115)).alloc (.cells #[.bool rep] 4) := ⟨_, rfl⟩
    rw [← hW]
    have S := HS.out _ _ _ hW
    clear HS hW
    have HSt := Lib.hid S
    clear S
    by_cases hk : t.kind = 42
    · have hst : stops a t.kind t.nb = false := by rw [hk]; simp [stops]
      have HV : Hid (usF a rep t u = usK a true t.kids u) := by
        have h := HU.out
        rw [hst, if_neg (by decide), bump_other (by rw [hk]; decide) (by rw [hk]; decide) (by rw [hk]; decide), hk] at h
        simpa [Hid] using h
      have hbi : bindsB t.kind = false := by rw [hk]; rfl
      have S2 : CS w0 w (W.setCell ⟨w.heap.size + 1, 0, none⟩ (.bool true)) g (w.heap.size + 1) w.heap.size u true := HSt.out.rep true (by omega) (by have := HSt.out.below.size; have := hb.size; omega) (by omega)
      have HB2 := Lib.hid (HBD.out.le (c := b + 2) (by omega))
      have d0 : W.cell? ⟨x, 0, none⟩ = some (.int .u8 (vl t.kind)) := (HSt.out.below.cell hbx).trans C0.out
      have d1 : W.cell? ⟨x, 1, none⟩ = some (.int .u8 (vl t.na)) := (HSt.out.below.cell hbx).trans C1.out
      have d2 : W.cell? ⟨x, 2, none⟩ = some (.int .u8 (vl t.nb)) := (HSt.out.below.cell hbx).trans C2.out
      have d3 : W.cell? ⟨x, 3, none⟩ = some (.slice o t.kids.length cap) := (HSt.out.below.cell hbx).trans C3.out
      obtain ⟨eA, hA⟩ := HSt.out.ag
      obtain ⟨eU, hU⟩ := HSt.out.ub
      have dA : W.cell? ⟨w.heap.size + 1, 0, none⟩ = some (.bool rep) := blk_cell hA 0
      have dU : W.cell? ⟨w.heap.size, 0, none⟩ = some (.pointer (some ⟨g, 0, none⟩)) := blk_cell hU 0
      have fA := blk_frozen hA 0
      clear hA hU
      have hk42 : vl t.kind = 42 := by rw [hk]; rfl
      rw [hk42] at d0
      clear hst
      go_upto_region 4 with fail
      generalize W.setCell ⟨w.heap.size + 1, 0, none⟩ (.bool true) = W3 at S2 ⊢
      have HS3 := Lib.hid S2
      clear d0 d1 d2 d3 dA dU fA S2
      have d0 : W3.cell? ⟨x, 0, none⟩ = some (.int .u8 (vl t.kind)) := (HS3.out.below.cell hbx).trans C0.out
      have d1 : W3.cell? ⟨x, 1, none⟩ = some (.int .u8 (vl t.na)) := (HS3.out.below.cell hbx).trans C1.out
      have d2 : W3.cell? ⟨x, 2, none⟩ = some (.int .u8 (vl t.nb)) := (HS3.out.below.cell hbx).trans C2.out
      have d3 : W3.cell? ⟨x, 3, none⟩ = some (.slice o t.kids.length cap) := (HS3.out.below.cell hbx).trans C3.out
      obtain ⟨eA, hA⟩ := HS3.out.ag
      obtain ⟨eU, hU⟩ := HS3.out.ub
      have dA : W3.cell? ⟨w.heap.size + 1, 0, none⟩ = some (.bool true) := blk_cell hA 0
      have dU : W3.cell? ⟨w.heap.size, 0, none⟩ = some (.pointer (some ⟨g, 0, none⟩)) := blk_cell hU 0
      have fA := blk_frozen hA 0
      clear hA hU
      have hbc := binds_calls t.kind x W3 d0
      rw [hbi] at hbc
      rw [hk42] at d0
      clear hk hbi
      go_wp2_with fail
      refine hbc.mono ?_
      rintro e W4 ⟨rfl, rfl⟩
      clear hbc d0 d1 d2 dA dU fA
      go_wp2_with fail
      go_loopw [94] (fun i wr => ∃ j : Nat, j ≤ t.kids.length ∧ i = .int .i64 j ∧ CS w0 w wr g (w.heap.size + 1) w.heap.size (usK a true (t.kids.take j) u) true) (fun i _ => t.kids.length - (intOf i).toNat)
      case atStart => exact ⟨0, Nat.zero_le _, rfl, HS3.out⟩
      case round =>
        obtain ⟨j, hj, rfl, hr⟩ := hrel
        have HR := Lib.hid hr
        clear hr
        by_cases hlt : j < t.kids.length
        · obtain ⟨rr, y, rfl, hc, hy⟩ := HK.out j hlt
          have hc2 := (HR.out.below.cell (World.block_lt_of_cell? w0 _ hc)).trans hc
          have h1 := Lib.hid (usK_take_succ a true t.kids u j hlt)
          have h2 := kid_le t j hlt
          have h3 := sizes_take_succ t.kids j hlt
          have h4 := sizes_take_le t.kids (j + 1)
          have h5 := sizes_kids t
          have hbk := bd_usK a true (t.kids.take j) u (b + 2) HB2.out
          have hrec := ih t.kids[j] w0 wr N y g _ (usK a true (t.kids.take j) u) true (by omega) (by omega) (kid_wf HW.out j hlt) hy HR.out.below HR.out.g0 HR.out.us hbk (by unfold sizes at h3 h4 h5; omega)
          obtain ⟨eA, hA⟩ := HR.out.ag
          obtain ⟨eU, hU⟩ := HR.out.ub
          have dA : wr.cell? ⟨w.heap.size + 1, 0, none⟩ = some (.bool true) := blk_cell hA 0
          have dU : wr.cell? ⟨w.heap.size, 0, none⟩ = some (.pointer (some ⟨g, 0, none⟩)) := blk_cell hU 0
          have fA := blk_frozen hA 0
          clear hA hU
          clear h3 h4 h5 hc hy hbk fA
          go_wp2_with fail
          refine hrec.mono ?_
          rintro e W2 ⟨rfl, hu2, hg2⟩
          have S2 := Lib.hid (HR.out.step hu2 hg2)
          clear hrec hu2 hg2 dA dU
          go_wp2_with fail
          go_roundw
          case rel => exact ⟨j + 1, by omega, by go_num, by rw [h1.out]; exact S2.out⟩
          case measure => simp [intOf]; omega
        · have HF := Lib.hid (congrArg (fun l => usK a true l u) (List.take_of_length_le (by omega : t.kids.length ≤ j)))
          go_wp2_with fail
          go_end0
          exact ⟨rfl, by rw [HV.out, ← HF.out]; exact HR.out.us, HR.out.grown⟩
    · have hk' : (vl t.kind == 42) = false := by rw [beq_eq_false_iff_ne, ne_eq, ← show vl 42 = 42 from rfl, vl_inj]; exact hk
      have hrep : (rep || t.kind == 42) = rep := by simp [hk]
      have HV := Lib.hid HU.out
      rw [hrep] at HV
      have q1 := eq_vl (x := t.kind) 33
      have q2 := eq_vl (x := t.kind) 61
      have q3 := eq_vl (x := t.kind) 63
      have p1 : vl 33 = 33 := rfl
      have p2 : vl 61 = 61 := rfl
      have p3 : vl 63 = 63 := rfl
      rw [p1] at q1
      rw [p2] at q2
      rw [p3] at q3
      have r1 := eq_vl (x := t.na) a
      have r2 := eq_vl (x := t.nb) a
      have HB1 : Hid (u.bd 1000000) := HBD.out.le (by omega)
      have HB2 : Hid (∀ i, (u.inc i rep).bd 1000000) := fun i => (HBD.out.inc i rep).le (by have := t.size_pos; omega)
      have d0 : W.cell? ⟨x, 0, none⟩ = some (.int .u8 (vl t.kind)) := (HSt.out.below.cell hbx).trans C0.out
      have d1 : W.cell? ⟨x, 1, none⟩ = some (.int .u8 (vl t.na)) := (HSt.out.below.cell hbx).trans C1.out
      have d2 : W.cell? ⟨x, 2, none⟩ = some (.int .u8 (vl t.nb)) := (HSt.out.below.cell hbx).trans C2.out
      have d3 : W.cell? ⟨x, 3, none⟩ = some (.slice o t.kids.length cap) := (HSt.out.below.cell hbx).trans C3.out
      obtain ⟨eA, hA⟩ := HSt.out.ag
      obtain ⟨eU, hU⟩ := HSt.out.ub
      have dA : W.cell? ⟨w.heap.size + 1, 0, none⟩ = some (.bool rep) := blk_cell hA 0
      have dU : W.cell? ⟨w.heap.size, 0, none⟩ = some (.pointer (some ⟨g, 0, none⟩)) := blk_cell hU 0
      have fA := blk_frozen hA 0
      clear hA hU
      have HQ : Hid (_ ∧ _ ∧ _ ∧ _ ∧ _) := ⟨q1, q2, q3, r1, r2⟩
      clear p1 p2 p3 hrep hk q1 q2 q3 r1 r2
      go_upto_block 0 with fail
      go_cut [] (fun wc => CS w0 w wc g (w.heap.size + 1) w.heap.size (bump a rep t.kind t.na t.nb u) rep)
      case first =>
        obtain ⟨q1, q2, q3, r1, r2⟩ := HQ.out
        by_cases h1 : t.kind = 33
        · rw [decide_eq_true h1] at q1
          rw [decide_eq_false (by rw [h1]; decide)] at q2
          rw [decide_eq_false (by rw [h1]; decide)] at q3
          by_cases h2 : t.na = a
          · by_cases h3 : t.nb = a
            · have HVb : Hid (bump a rep t.kind t.na t.nb u = (u.inc 0 rep).inc 2 rep) := by simp [Hid, bump, h1, h2, h3]
              rw [decide_eq_true h2] at r1
              rw [decide_eq_true h3] at r2
              clear h1 h2 h3
              go_wp2_with fail
              refine (add_calls (i := 0) (u := u) (rep := rep) (by omega) HSt.out.us HSt.out.ag HSt.out.ub HSt.out.nA HSt.out.nU HB1.out).mono ?_
              rintro e W1 ⟨rfl, hu1, hg1⟩
              have S1 := Lib.hid (HSt.out.step hu1 hg1)
              clear d0 d1 d2 d3 dA dU fA hu1 hg1
              have d0 : W1.cell? ⟨x, 0, none⟩ = some (.int .u8 (vl t.kind)) := (S1.out.below.cell hbx).trans C0.out
              have d1 : W1.cell? ⟨x, 1, none⟩ = some (.int .u8 (vl t.na)) := (S1.out.below.cell hbx).trans C1.out
              have d2 : W1.cell? ⟨x, 2, none⟩ = some (.int .u8 (vl t.nb)) := (S1.out.below.cell hbx).trans C2.out
              have d3 : W1.cell? ⟨x, 3, none⟩ = some (.slice o t.kids.length cap) := (S1.out.below.cell hbx).trans C3.out
              obtain ⟨eA, hA⟩ := S1.out.ag
              obtain ⟨eU, hU⟩ := S1.out.ub
              have dA : W1.cell? ⟨w.heap.size + 1, 0, none⟩ = some (.bool rep) := blk_cell hA 0
              have dU : W1.cell? ⟨w.heap.size, 0, none⟩ = some (.pointer (some ⟨g, 0, none⟩)) := blk_cell hU 0
              have fA := blk_frozen hA 0
              clear hA hU
              go_wp2_with fail
              refine (add_calls (i := 2) (u := (u.inc 0 rep)) (rep := rep) (by omega) S1.out.us S1.out.ag S1.out.ub S1.out.nA S1.out.nU (HB2.out 0)).mono ?_
              rintro e W2 ⟨rfl, hu2, hg2⟩
              have S2 := Lib.hid (S1.out.step hu2 hg2)
              clear d0 d1 d2 d3 dA dU fA hu2 hg2
              have d0 : W2.cell? ⟨x, 0, none⟩ = some (.int .u8 (vl t.kind)) := (S2.out.below.cell hbx).trans C0.out
              have d1 : W2.cell? ⟨x, 1, none⟩ = some (.int .u8 (vl t.na)) := (S2.out.below.cell hbx).trans C1.out
              have d2 : W2.cell? ⟨x, 2, none⟩ = some (.int .u8 (vl t.nb)) := (S2.out.below.cell hbx).trans C2.out
              have d3 : W2.cell? ⟨x, 3, none⟩ = some (.slice o t.kids.length cap) := (S2.out.below.cell hbx).trans C3.out
              obtain ⟨eA, hA⟩ := S2.out.ag
              obtain ⟨eU, hU⟩ := S2.out.ub
              have dA : W2.cell? ⟨w.heap.size + 1, 0, none⟩ = some (.bool rep) := blk_cell hA 0
              have dU : W2.cell? ⟨w.heap.size, 0, none⟩ = some (.pointer (some ⟨g, 0, none⟩)) := blk_cell hU 0
              have fA := blk_frozen hA 0
              clear hA hU
              go_wp2_with fail
              go_meet
              case rel => rw [HVb.out]; exact S2.out
            · have HVb : Hid (bump a rep t.kind t.na t.nb u = (u.inc 0 rep)) := by simp [Hid, bump, h1, h2, h3]
              rw [decide_eq_true h2] at r1
              rw [decide_eq_false h3] at r2
              clear h1 h2 h3
              go_wp2_with fail
              refine (add_calls (i := 0) (u := u) (rep := rep) (by omega) HSt.out.us HSt.out.ag HSt.out.ub HSt.out.nA HSt.out.nU HB1.out).mono ?_
              rintro e W1 ⟨rfl, hu1, hg1⟩
              have S1 := Lib.hid (HSt.out.step hu1 hg1)
              clear d0 d1 d2 d3 dA dU fA hu1 hg1
              have d0 : W1.cell? ⟨x, 0, none⟩ = some (.int .u8 (vl t.kind)) := (S1.out.below.cell hbx).trans C0.out
              have d1 : W1.cell? ⟨x, 1, none⟩ = some (.int .u8 (vl t.na)) := (S1.out.below.cell hbx).trans C1.out
              have d2 : W1.cell? ⟨x, 2, none⟩ = some (.int .u8 (vl t.nb)) := (S1.out.below.cell hbx).trans C2.out
              have d3 : W1.cell? ⟨x, 3, none⟩ = some (.slice o t.kids.length cap) := (S1.out.below.cell hbx).trans C3.out
              obtain ⟨eA, hA⟩ := S1.out.ag
              obtain ⟨eU, hU⟩ := S1.out.ub
              have dA : W1.cell? ⟨w.heap.size + 1, 0, none⟩ = some (.bool rep) := blk_cell hA 0
              have dU : W1.cell? ⟨w.heap.size, 0, none⟩ = some (.pointer (some ⟨g, 0, none⟩)) := blk_cell hU 0
              have fA := blk_frozen hA 0
              clear hA hU
              go_wp2_with fail
              go_meet
              case rel => rw [HVb.out]; exact S1.out
          · by_cases h3 : t.nb = a
            · have HVb : Hid (bump a rep t.kind t.na t.nb u = (u.inc 2 rep)) := by simp [Hid, bump, h1, h2, h3]
              rw [decide_eq_false h2] at r1
              rw [decide_eq_true h3] at r2
              clear h1 h2 h3
              go_wp2_with fail
              refine (add_calls (i := 2) (u := u) (rep := rep) (by omega) HSt.out.us HSt.out.ag HSt.out.ub HSt.out.nA HSt.out.nU HB1.out).mono ?_
              rintro e W1 ⟨rfl, hu1, hg1⟩
              have S1 := Lib.hid (HSt.out.step hu1 hg1)
              clear d0 d1 d2 d3 dA dU fA hu1 hg1
              have d0 : W1.cell? ⟨x, 0, none⟩ = some (.int .u8 (vl t.kind)) := (S1.out.below.cell hbx).trans C0.out
              have d1 : W1.cell? ⟨x, 1, none⟩ = some (.int .u8 (vl t.na)) := (S1.out.below.cell hbx).trans C1.out
              have d2 : W1.cell? ⟨x, 2, none⟩ = some (.int .u8 (vl t.nb)) := (S1.out.below.cell hbx).trans C2.out
              have d3 : W1.cell? ⟨x, 3, none⟩ = some (.slice o t.kids.length cap) := (S1.out.below.cell hbx).trans C3.out
              obtain ⟨eA, hA⟩ := S1.out.ag
              obtain ⟨eU, hU⟩ := S1.out.ub
              have dA : W1.cell? ⟨w.heap.size + 1, 0, none⟩ = some (.bool rep) := blk_cell hA 0
              have dU : W1.cell? ⟨w.heap.size, 0, none⟩ = some (.pointer (some ⟨g, 0, none⟩)) := blk_cell hU 0
              have fA := blk_frozen hA 0
              clear hA hU
              go_wp2_with fail
              go_meet
              case rel => rw [HVb.out]; exact S1.out
            · have HVb : Hid (bump a rep t.kind t.na t.nb u = u) := by simp [Hid, bump, h1, h2, h3]
              rw [decide_eq_false h2] at r1
              rw [decide_eq_false h3] at r2
              clear h1 h2 h3
              go_wp2_with fail
              go_meet
              case rel => rw [HVb.out]; exact HSt.out
        by_cases h1b : t.kind = 63
        · rw [decide_eq_false h1] at q1
          rw [decide_eq_false (by rw [h1b]; decide)] at q2
          rw [decide_eq_true h1b] at q3
          by_cases h2 : t.na = a
          · have HVb : Hid (bump a rep t.kind t.na t.nb u = u.inc 1 rep) := by simp [Hid, bump, h1b, h2]
            rw [decide_eq_true h2] at r1
            clear h1 h1b h2
            go_wp2_with fail
            refine (add_calls (i := 1) (u := u) (rep := rep) (by omega) HSt.out.us HSt.out.ag HSt.out.ub HSt.out.nA HSt.out.nU HB1.out).mono ?_
            rintro e W1 ⟨rfl, hu1, hg1⟩
            have S1 := Lib.hid (HSt.out.step hu1 hg1)
            clear d0 d1 d2 d3 dA dU fA hu1 hg1
            have d0 : W1.cell? ⟨x, 0, none⟩ = some (.int .u8 (vl t.kind)) := (S1.out.below.cell hbx).trans C0.out
            have d1 : W1.cell? ⟨x, 1, none⟩ = some (.int .u8 (vl t.na)) := (S1.out.below.cell hbx).trans C1.out
            have d2 : W1.cell? ⟨x, 2, none⟩ = some (.int .u8 (vl t.nb)) := (S1.out.below.cell hbx).trans C2.out
            have d3 : W1.cell? ⟨x, 3, none⟩ = some (.slice o t.kids.length cap) := (S1.out.below.cell hbx).trans C3.out
            obtain ⟨eA, hA⟩ := S1.out.ag
            obtain ⟨eU, hU⟩ := S1.out.ub
            have dA : W1.cell? ⟨w.heap.size + 1, 0, none⟩ = some (.bool rep) := blk_cell hA 0
            have dU : W1.cell? ⟨w.heap.size, 0, none⟩ = some (.pointer (some ⟨g, 0, none⟩)) := blk_cell hU 0
            have fA := blk_frozen hA 0
            clear hA hU
            go_wp2_with fail
            go_meet
            case rel => rw [HVb.out]; exact S1.out
          · have HVb : Hid (bump a rep t.kind t.na t.nb u = u) := by simp [Hid, bump, h1b, h2]
            rw [decide_eq_false h2] at r1
            clear h1 h1b h2
            go_wp2_with fail
            go_meet
            case rel => rw [HVb.out]; exact HSt.out
        by_cases h1c : t.kind = 61
        · rw [decide_eq_false h1] at q1
          rw [decide_eq_true h1c] at q2
          rw [decide_eq_false h1b] at q3
          by_cases h2 : t.na = a
          · have HVb : Hid (bump a rep t.kind t.na t.nb u = u.inc 3 rep) := by simp [Hid, bump, h1c, h2]
            rw [decide_eq_true h2] at r1
            clear h1 h1b h1c h2
            go_wp2_with fail
            refine (add_calls (i := 3) (u := u) (rep := rep) (by omega) HSt.out.us HSt.out.ag HSt.out.ub HSt.out.nA HSt.out.nU HB1.out).mono ?_
            rintro e W1 ⟨rfl, hu1, hg1⟩
            have S1 := Lib.hid (HSt.out.step hu1 hg1)
            clear d0 d1 d2 d3 dA dU fA hu1 hg1
            have d0 : W1.cell? ⟨x, 0, none⟩ = some (.int .u8 (vl t.kind)) := (S1.out.below.cell hbx).trans C0.out
            have d1 : W1.cell? ⟨x, 1, none⟩ = some (.int .u8 (vl t.na)) := (S1.out.below.cell hbx).trans C1.out
            have d2 : W1.cell? ⟨x, 2, none⟩ = some (.int .u8 (vl t.nb)) := (S1.out.below.cell hbx).trans C2.out
            have d3 : W1.cell? ⟨x, 3, none⟩ = some (.slice o t.kids.length cap) := (S1.out.below.cell hbx).trans C3.out
            obtain ⟨eA, hA⟩ := S1.out.ag
            obtain ⟨eU, hU⟩ := S1.out.ub
            have dA : W1.cell? ⟨w.heap.size + 1, 0, none⟩ = some (.bool rep) := blk_cell hA 0
            have dU : W1.cell? ⟨w.heap.size, 0, none⟩ = some (.pointer (some ⟨g, 0, none⟩)) := blk_cell hU 0
            have fA := blk_frozen hA 0
            clear hA hU
            go_wp2_with fail
            go_meet
            case rel => rw [HVb.out]; exact S1.out
          · by_cases h3 : t.nb = a
            · have HVb : Hid (bump a rep t.kind t.na t.nb u = u.inc 3 rep) := by simp [Hid, bump, h1c, h2, h3]
              rw [decide_eq_false h2] at r1
              rw [decide_eq_true h3] at r2
              clear h1 h1b h1c h2 h3
              go_wp2_with fail
              refine (add_calls (i := 3) (u := u) (rep := rep) (by omega) HSt.out.us HSt.out.ag HSt.out.ub HSt.out.nA HSt.out.nU HB1.out).mono ?_
              rintro e W1 ⟨rfl, hu1, hg1⟩
              have S1 := Lib.hid (HSt.out.step hu1 hg1)
              clear d0 d1 d2 d3 dA dU fA hu1 hg1
              have d0 : W1.cell? ⟨x, 0, none⟩ = some (.int .u8 (vl t.kind)) := (S1.out.below.cell hbx).trans C0.out
              have d1 : W1.cell? ⟨x, 1, none⟩ = some (.int .u8 (vl t.na)) := (S1.out.below.cell hbx).trans C1.out
              have d2 : W1.cell? ⟨x, 2, none⟩ = some (.int .u8 (vl t.nb)) := (S1.out.below.cell hbx).trans C2.out
              have d3 : W1.cell? ⟨x, 3, none⟩ = some (.slice o t.kids.length cap) := (S1.out.below.cell hbx).trans C3.out
              obtain ⟨eA, hA⟩ := S1.out.ag
              obtain ⟨eU, hU⟩ := S1.out.ub
              have dA : W1.cell? ⟨w.heap.size + 1, 0, none⟩ = some (.bool rep) := blk_cell hA 0
              have dU : W1.cell? ⟨w.heap.size, 0, none⟩ = some (.pointer (some ⟨g, 0, none⟩)) := blk_cell hU 0
              have fA := blk_frozen hA 0
              clear hA hU
              go_wp2_with fail
              go_meet
              case rel => rw [HVb.out]; exact S1.out
            · have HVb : Hid (bump a rep t.kind t.na t.nb u = u) := by simp [Hid, bump, h1c, h2, h3]
              rw [decide_eq_false h2] at r1
              rw [decide_eq_false h3] at r2
              clear h1 h1b h1c h2 h3
              go_wp2_with fail
              go_meet
              case rel => rw [HVb.out]; exact HSt.out
        · have HVb : Hid (bump a rep t.kind t.na t.nb u = u) := bump_other h1 h1b h1c
          rw [decide_eq_false h1] at q1
          rw [decide_eq_false h1c] at q2
          rw [decide_eq_false h1b] at q3
          clear h1 h1b h1c
          go_wp2_with fail
          go_meet
          case rel => rw [HVb.out]; exact HSt.out
      case rest =>
        have HSc := Lib.hid hcut
        have HB3 := Lib.hid (bd_bump HBD.out a rep t.kind t.na t.nb)
        clear hcut d0 d1 d2 d3 dA dU fA
        have d0 : wc.cell? ⟨x, 0, none⟩ = some (.int .u8 (vl t.kind)) := (HSc.out.below.cell hbx).trans C0.out
        have d1 : wc.cell? ⟨x, 1, none⟩ = some (.int .u8 (vl t.na)) := (HSc.out.below.cell hbx).trans C1.out
        have d2 : wc.cell? ⟨x, 2, none⟩ = some (.int .u8 (vl t.nb)) := (HSc.out.below.cell hbx).trans C2.out
        have d3 : wc.cell? ⟨x, 3, none⟩ = some (.slice o t.kids.length cap) := (HSc.out.below.cell hbx).trans C3.out
        obtain ⟨eA, hA⟩ := HSc.out.ag
        obtain ⟨eU, hU⟩ := HSc.out.ub
        have dA : wc.cell? ⟨w.heap.size + 1, 0, none⟩ = some (.bool rep) := blk_cell hA 0
        have dU : wc.cell? ⟨w.heap.size, 0, none⟩ = some (.pointer (some ⟨g, 0, none⟩)) := blk_cell hU 0
        have fA := blk_frozen hA 0
        clear hA hU
        have hbc := binds_calls t.kind x wc d0
        rcases hst : stops a t.kind t.nb with _ | _
        · have HV2 : Hid (usF a rep t u = usK a rep t.kids (bump a rep t.kind t.na t.nb u)) := by
            have h := HV.out
            rw [hst, if_neg (by decide)] at h
            exact h
          rcases hbi : bindsB t.kind with _ | _
          · rw [hbi] at hbc
            clear hbi hst
            go_wp2_with fail
            refine hbc.mono ?_
            rintro e W4 ⟨rfl, rfl⟩
            clear hbc d0 d1 d2 dA dU fA
            go_wp2_with fail
            go_loopw [94] (fun i wr => ∃ j : Nat, j ≤ t.kids.length ∧ i = .int .i64 j ∧ CS w0 w wr g (w.heap.size + 1) w.heap.size (usK a rep (t.kids.take j) (bump a rep t.kind t.na t.nb u)) rep) (fun i _ => t.kids.length - (intOf i).toNat)
            case atStart => exact ⟨0, Nat.zero_le _, rfl, HSc.out⟩
            case round =>
              obtain ⟨j, hj, rfl, hr⟩ := hrel
              have HR := Lib.hid hr
              clear hr
              by_cases hlt : j < t.kids.length
              · obtain ⟨rr, y, rfl, hc, hy⟩ := HK.out j hlt
                have hc2 := (HR.out.below.cell (World.block_lt_of_cell? w0 _ hc)).trans hc
                have h1 := Lib.hid (usK_take_succ a rep t.kids (bump a rep t.kind t.na t.nb u) j hlt)
                have h2 := kid_le t j hlt
                have h3 := sizes_take_succ t.kids j hlt
                have h4 := sizes_take_le t.kids (j + 1)
                have h5 := sizes_kids t
                have hbk := bd_usK a rep (t.kids.take j) (bump a rep t.kind t.na t.nb u) (b + 2) HB3.out
                have hrec := ih t.kids[j] w0 wr N y g _ (usK a rep (t.kids.take j) (bump a rep t.kind t.na t.nb u)) rep (by omega) (by omega) (kid_wf HW.out j hlt) hy HR.out.below HR.out.g0 HR.out.us hbk (by unfold sizes at h3 h4 h5; omega)
                obtain ⟨eA, hA⟩ := HR.out.ag
                obtain ⟨eU, hU⟩ := HR.out.ub
                have dA : wr.cell? ⟨w.heap.size + 1, 0, none⟩ = some (.bool rep) := blk_cell hA 0
                have dU : wr.cell? ⟨w.heap.size, 0, none⟩ = some (.pointer (some ⟨g, 0, none⟩)) := blk_cell hU 0
                have fA := blk_frozen hA 0
                clear hA hU
                clear h3 h4 h5 hc hy hbk fA
                go_wp2_with fail
                refine hrec.mono ?_
                rintro e W2 ⟨rfl, hu2, hg2⟩
                have S2 := Lib.hid (HR.out.step hu2 hg2)
                clear hrec hu2 hg2 dA dU
                go_wp2_with fail
                go_roundw
                case rel => exact ⟨j + 1, by omega, by go_num, by rw [h1.out]; exact S2.out⟩
                case measure => simp [intOf]; omega
              · have HF := Lib.hid (congrArg (fun l => usK a rep l (bump a rep t.kind t.na t.nb u)) (List.take_of_length_le (by omega : t.kids.length ≤ j)))
                go_wp2_with fail
                go_end0
                exact ⟨rfl, by rw [HV2.out, ← HF.out]; exact HR.out.us, HR.out.grown⟩
          · have hb3 : (vl t.nb == vl a) = false := by
              rw [eq_vl]
              have : bindsB t.kind = true := hbi
              rw [bindsB_eq, decide_eq_true_eq] at this
              have h2 : ¬ ((t.kind = 63 ∨ t.kind = 35) ∧ t.nb = a) := by simpa [stops] using hst
              exact decide_eq_false fun h => h2 ⟨this, h⟩
            rw [hbi] at hbc
            clear hbi hst
            go_wp2_with fail
            refine hbc.mono ?_
            rintro e W4 ⟨rfl, rfl⟩
            go_wp2_with fail
            clear hbc d0 d1 d2 dA dU fA
            go_wp2_with fail
            go_loopw [94] (fun i wr => ∃ j : Nat, j ≤ t.kids.length ∧ i = .int .i64 j ∧ CS w0 w wr g (w.heap.size + 1) w.heap.size (usK a rep (t.kids.take j) (bump a rep t.kind t.na t.nb u)) rep) (fun i _ => t.kids.length - (intOf i).toNat)
            case atStart => exact ⟨0, Nat.zero_le _, rfl, HSc.out⟩
            case round =>
              obtain ⟨j, hj, rfl, hr⟩ := hrel
              have HR := Lib.hid hr
              clear hr
              by_cases hlt : j < t.kids.length
              · obtain ⟨rr, y, rfl, hc, hy⟩ := HK.out j hlt
                have hc2 := (HR.out.below.cell (World.block_lt_of_cell? w0 _ hc)).trans hc
                have h1 := Lib.hid (usK_take_succ a rep t.kids (bump a rep t.kind t.na t.nb u) j hlt)
                have h2 := kid_le t j hlt
                have h3 := sizes_take_succ t.kids j hlt
                have h4 := sizes_take_le t.kids (j + 1)
                have h5 := sizes_kids t
                have hbk := bd_usK a rep (t.kids.take j) (bump a rep t.kind t.na t.nb u) (b + 2) HB3.out
                have hrec := ih t.kids[j] w0 wr N y g _ (usK a rep (t.kids.take j) (bump a rep t.kind t.na t.nb u)) rep (by omega) (by omega) (kid_wf HW.out j hlt) hy HR.out.below HR.out.g0 HR.out.us hbk (by unfold sizes at h3 h4 h5; omega)
                obtain ⟨eA, hA⟩ := HR.out.ag
                obtain ⟨eU, hU⟩ := HR.out.ub
                have dA : wr.cell? ⟨w.heap.size + 1, 0, none⟩ = some (.bool rep) := blk_cell hA 0
                have dU : wr.cell? ⟨w.heap.size, 0, none⟩ = some (.pointer (some ⟨g, 0, none⟩)) := blk_cell hU 0
                have fA := blk_frozen hA 0
                clear hA hU
                clear h3 h4 h5 hc hy hbk fA
                go_wp2_with fail
                refine hrec.mono ?_
                rintro e W2 ⟨rfl, hu2, hg2⟩
                have S2 := Lib.hid (HR.out.step hu2 hg2)
                clear hrec hu2 hg2 dA dU
                go_wp2_with fail
                go_roundw
                case rel => exact ⟨j + 1, by omega, by go_num, by rw [h1.out]; exact S2.out⟩
                case measure => simp [intOf]; omega
              · have HF := Lib.hid (congrArg (fun l => usK a rep l (bump a rep t.kind t.na t.nb u)) (List.take_of_length_le (by omega : t.kids.length ≤ j)))
                go_wp2_with fail
                go_end0
                exact ⟨rfl, by rw [HV2.out, ← HF.out]; exact HR.out.us, HR.out.grown⟩
        · have HV2 : Hid (usF a rep t u = bump a rep t.kind t.na t.nb u) := by
            have h := HV.out
            rw [hst, if_pos rfl] at h
            exact h
          have h2 : (t.kind = 63 ∨ t.kind = 35) ∧ t.nb = a := by simpa [stops] using hst
          have hbi : bindsB t.kind = true := by rw [bindsB_eq]; simpa using h2.1
          have hb3 : (vl t.nb == vl a) = true := by rw [eq_vl]; simpa using h2.2
          rw [hbi] at hbc
          clear hbi hst h2
          go_wp2_with fail
          refine hbc.mono ?_
          rintro e W4 ⟨rfl, rfl⟩
          go_wp2_with fail
          refine bodyPost_ret (results_none (by kernel_rfl) _ _ _) rfl ?_
          exact ⟨rfl, by rw [HV2.out]; exact HSc.out.us, HSc.out.grown⟩

end Go.Proofs.YtjgfgjhaghbehaaGreat
