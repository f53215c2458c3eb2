/- The walk of with: a term with another one at a path. -/
import Derived.Test.YtjinjanjjecmiaaPutP
import Derived.Test.YtjinjanjjecmiaaWMore
import Derived.Test.YtjinjanjjecmiaaSize
import Derived.Deep.RegionHeld3
import Derived.Test.YtjinjanjjecmiaaStill
import Derived.StillTailTactics
namespace Go.Proofs.Ytjinjanjjecmiaa
open Go.RowKit Go.Proofs.YtjinjanjjecmiaaW.PrintWords Go.Proofs.YtjinjanjjecmiaaW.PrintLast Go.Proofs.YtjinjanjjecmiaaW.PrintMore
set_option linter.unusedVariables false
set_option linter.unusedSimpArgs false

/-- A pointer to a block. -/
def pE (x : Nat) : Value := .pointer (some ⟨x, 0, none⟩)
abbrev pK : Kd Nat := Kd.scalar pE (fun _ => rfl)
/-- The parts' blocks in a row. -/
theorem Lies.row {w : World} {N b : Nat} {t : Tm} (h : Lies w N t b) : ∃ A cap xs, w.cell? ⟨b, 3, none⟩ = some (.slice A t.kids.length cap) ∧ xs.length = t.kids.length ∧ pK.C w A t.kids.length xs ∧ (0 < t.kids.length → ∃ r, A = some ⟨r, 0, none⟩ ∧ ∀ (i : Nat) (x : Nat), xs[i]? = some x → w.cell? ⟨r, i, none⟩ = some (.pointer (some ⟨x, 0, none⟩))) ∧
    (∀ i, (hi : i < t.kids.length) → ∃ x, xs[i]? = some x ∧ Lies w N t.kids[i] x) := by
  cases t with
  | leaf k a c =>
    obtain ⟨_, o, cap, hn⟩ := h
    exact ⟨o, cap, [], hn.cells.2.2.2, rfl, ⟨rfl, by simp [Tm.kids], fun h => absurd h (by simp [Tm.kids])⟩, fun h => absurd h (by simp [Tm.kids]), fun i hi => by simp [Tm.kids] at hi⟩
  | un k a c t =>
    obtain ⟨_, r, cap, x, _, hn, hk, hl⟩ := h
    refine ⟨_, cap, [x], hn.cells.2.2.2, rfl, ⟨rfl, by simp [Tm.kids], fun _ => ⟨⟨r, 0, none⟩, rfl, fun j p hj => ⟨[pE p], rfl, rfl, fun i u hu => ?_⟩⟩⟩, fun _ => ⟨r, rfl, fun i x' hx' => ?_⟩, fun i hi => ?_⟩
    · have hj0 : j = 0 := by cases j with | zero => rfl | succ j => simp at hj
      have hi0 : i = 0 := by cases i with | zero => rfl | succ i => simp at hu
      subst hj0 hi0
      simp at hj hu
      subst hj hu
      exact hk.cell
    · have hi0 : i = 0 := by cases i with | zero => rfl | succ i => simp at hx'
      subst hi0
      simp at hx'
      subst hx'
      exact hk.cell
    · simp [Tm.kids] at hi; subst hi; exact ⟨x, rfl, hl⟩
  | bin k a c t u =>
    obtain ⟨_, r, cap, x, y, _, hn, hk, hk2, hl, hl2⟩ := h
    refine ⟨_, cap, [x, y], hn.cells.2.2.2, rfl, ⟨rfl, by simp [Tm.kids], fun _ => ⟨⟨r, 0, none⟩, rfl, fun j p hj => ⟨[pE p], rfl, rfl, fun i v hu => ?_⟩⟩⟩, fun _ => ⟨r, rfl, fun i x' hx' => ?_⟩, fun i hi => ?_⟩
    · have hi0 : i = 0 := by cases i with | zero => rfl | succ i => simp at hu
      subst hi0
      simp at hu
      subst hu
      match j, hj with
      | 0, hj => simp at hj; subst hj; exact hk.cell
      | 1, hj => simp at hj; subst hj; exact hk2.cell
      | j + 2, hj => simp at hj
    · match i, hx' with
      | 0, hx' => simp at hx'; subst hx'; exact hk.cell
      | 1, hx' => simp at hx'; subst hx'; exact hk2.cell
      | i + 2, hx' => simp at hx'
    · simp [Tm.kids] at hi
      rcases (by omega : i = 0 ∨ i = 1) with rfl | rfl
      · exact ⟨x, rfl, hl⟩
      · exact ⟨y, rfl, hl2⟩
/-- A node of which the parts lie in a row of its own. -/
theorem lies_of_row {w : World} {N b r cap : Nat} {t : Tm} {xs : List Nat} (hb : N ≤ b) (hr : N ≤ r) (hn : Node w b t.kind t.na t.nb (.slice (some ⟨r, 0, none⟩) t.kids.length cap)) {cs : Array Value} {e : TypeId}
    (hc : w.heap[r]? = some (.cells cs e (0, 0))) (hcs : ∀ (i : Nat) (x : Nat), xs[i]? = some x → cs[i]? = some (pE x)) (hk : ∀ i, (hi : i < t.kids.length) → ∃ x, xs[i]? = some x ∧ Lies w N t.kids[i] x) (h0 : 0 < t.kids.length) : Lies w N t b := by
  cases t with
  | leaf => simp [Tm.kids] at h0
  | un k a c t =>
    obtain ⟨x, hx, hl⟩ := hk 0 (by simp [Tm.kids])
    exact ⟨hb, r, cap, x, hr, hn, ⟨cs, e, hc, hcs 0 x hx⟩, hl⟩
  | bin k a c t u =>
    obtain ⟨x, hx, hl⟩ := hk 0 (by simp [Tm.kids])
    obtain ⟨y, hy, hl2⟩ := hk 1 (by simp [Tm.kids])
    exact ⟨hb, r, cap, x, y, hr, hn, ⟨cs, e, hc, hcs 0 x hx⟩, ⟨cs, e, hc, hcs 1 y hy⟩, hl, hl2⟩

theorem prow_nil (W : World) (base e : Nat) (hb : base ≤ W.heap.size) : pK.R e (W.alloc (.cells #[] e)) base (fun _ => True) (.slice (some ⟨W.heap.size, 0, none⟩) 0 0) [] := by
  refine Kd.R_of_own ⟨by simp [encs], .inr ⟨W.heap.size, 0, #[], rfl, hb, heap_alloc_new W _, Nat.le_refl _, by unfold maxLen; omega, by simp, ?_⟩⟩ (fun _ _ => trivial)
  simp [encs]
theorem put_at {q t : Tm} {c : UInt8} {l : List UInt8} {j : Nat} (hj : j < t.kids.length) (hc : c.toNat = 48 + j) :
    (putT q (c :: l) t).kind = t.kind ∧ (putT q (c :: l) t).na = t.na ∧ (putT q (c :: l) t).nb = t.nb ∧ (putT q (c :: l) t).kids = t.kids.set j (putT q l t.kids[j]) := by
  cases t with
  | leaf => simp [Tm.kids] at hj
  | un k a b t =>
    simp [Tm.kids] at hj
    subst hj
    exact ⟨rfl, rfl, rfl, rfl⟩
  | bin k a b t u =>
    simp [Tm.kids] at hj
    rcases (by omega : j = 0 ∨ j = 1) with rfl | rfl
    · have h : c = 48 := by apply UInt8.toNat_inj.mp; simpa using hc
      simp only [putT, if_pos h]
      exact ⟨rfl, rfl, rfl, rfl⟩
    · have h : ¬ c = 48 := by intro h; rw [h] at hc; simp at hc
      simp only [putT, if_neg h]
      exact ⟨rfl, rfl, rfl, rfl⟩
/-- A term lies in whatever world has the blocks of the elder world w0 and those from the world w on as w' has them. -/
def Stays (w0 w w' : World) (N : Nat) (t : Tm) (y : Nat) : Prop := ∀ w2 : World, (∀ i, (i < w0.heap.size ∨ w.heap.size ≤ i) → i < w'.heap.size → w2.heap[i]? = w'.heap[i]?) → Lies w2 N t y
def WithUpto (n : Nat) : Prop := ∀ (path : List UInt8) (t q : Tm) (w0 w : World) (N b x : Nat), path.length ≤ n → n ≤ 1000 → (t.sub path).isSome = true → N ≤ w0.heap.size → Lies w0 N t b → Lies w0 N q x → Below w0.heap.size w0 w →
    Calls Try.prog 72 #[.pointer (some ⟨b, 0, none⟩), .string (B path), .pointer (some ⟨x, 0, none⟩)] w fun e w' => ∃ y, e = .returned (.pointer (some ⟨y, 0, none⟩)) ∧ Stays w0 w w' N (putT q path t) y ∧ Below w.heap.size w w'
theorem stays_old {w0 w w' : World} {N x : Nat} {q : Tm} (hq : Lies w0 N q x) (hb : Below w0.heap.size w0 w') : Stays w0 w w' N q x := fun w2 h =>
  hq.keep fun i _ hi => (h i (.inl hi) (Nat.lt_of_lt_of_le hi hb.size)).trans (hb.block i hi)

set_option maxHeartbeats 4000000 in
theorem with_any (n : Nat) : WithUpto n := by
  induction n with
  | zero =>
    intro path t q w0 w N b x hp hn hs hN hl hq hb0
    have : path = [] := List.length_eq_zero_iff.mp (by omega)
    subst this
    have he : (B []).toList.isEmpty = true := by rw [B_toList]; rfl
    have HQ := Lib.hid (stays_old (w := w) hq hb0)
    clear hs hl hq hb0
    go_enter Try.func72, Try.ntmps72
    go_wp2_with fail
    go_ret
    exact ⟨x, rfl, HQ.out, Below.refl _ _⟩
  | succ n ih =>
    intro path t q w0 w N b x hp hn hs hN hl hq hb0
    cases path with
    | nil =>
      have he : (B []).toList.isEmpty = true := by rw [B_toList]; rfl
      have HQ := Lib.hid (stays_old (w := w) hq hb0)
      clear hs hl hq hb0
      go_enter Try.func72, Try.ntmps72
      go_wp2_with fail
      go_ret
      exact ⟨x, rfl, HQ.out, Below.refl _ _⟩
    | cons c l =>
      have he : (B (c :: l)).toList.isEmpty = false := by rw [B_toList]; rfl
      obtain ⟨j, hj, hcj, hj2, hsub⟩ := sub_step hs
      obtain ⟨A, cap, xs, c3', hxl, hC', hA, hkids⟩ := hl.row
      obtain ⟨r, rfl, hcells⟩ := hA (by omega)
      obtain ⟨kx, hkx, hklies⟩ := hkids j hj
      have hrl0 : r < w0.heap.size := World.block_lt_of_cell? w0 _ (hcells j kx hkx)
      have c4 := (hb0.cell hrl0).trans (hcells j kx hkx)
      have c3 := (hb0.cell hl.lt).trans c3'
      have hC := Kd.C_below hC' hb0
      obtain ⟨o', cap', c0, c1, c2, _, _⟩ := (hl.below hb0).at
      have HPUT := Lib.hid (put_at (q := q) (l := l) hj hcj)
      have HB00 := Lib.hid hb0
      have HL0 := Lib.hid hl
      have HXL := Lib.hid hxl
      have HKX := Lib.hid hkx
      have HKS := Lib.hid hkids
      clear c3' hC'
      have hz : (B (c :: l)).size = l.length + 1 := by rw [B_size]; rfl
      have hby := byte_of (c :: l) 0 (by simp)
      have hvc : vl c = (j : Int) + 48 := by unfold vl; omega
      have hkl : t.kids.length ≤ 2 := by cases t <;> simp [Tm.kids]
      have hex : (B (c :: l)).extract 1 (B (c :: l)).size = B l := by rw [B_extract]; simp [B_size]
      have HQ0 := Lib.hid hq
      clear hq
      have HL := Lib.hid (hl.below hb0)
      have HC := Lib.hid hC
      have HK := Lib.hid hkids
      have HN := Lib.hid hN
      have HSUB := Lib.hid hsub
      rw [show ((c :: l)[0]'(by simp)) = c from rfl, hvc] at hby
      clear hs hl hC hkids hN hsub hcj hvc hb0
      go_enter Try.func72, Try.ntmps72
      go_upto_region 4 with fail
      obtain ⟨w1, hW1⟩ : ∃ w1, w1 = w.alloc (.cells #[.int .u8 (vl t.kind), .int .u8 (vl t.na), .int .u8 (vl t.nb), .slice (some ⟨r, 0, none⟩) t.kids.length cap] 49) := ⟨_, rfl⟩
      rw [← hW1]
      have hs1 : w1.heap.size = w.heap.size + 1 := by rw [hW1]; simp
      have hb1 : Below w.heap.size w w1 := by rw [hW1]; exact (Below.refl _ _).alloc (Nat.le_refl _) _
      have hx1 : w1.heap[w.heap.size]? = some (.cells #[.int .u8 (vl t.kind), .int .u8 (vl t.na), .int .u8 (vl t.nb), .slice (some ⟨r, 0, none⟩) t.kids.length cap] 49 (0, 0)) := by rw [hW1]; exact heap_alloc_new w _
      have e3 : ∀ o', (w1.alloc o').cell? ⟨b, 3, none⟩ = some (.slice (some ⟨r, 0, none⟩) t.kids.length cap) := fun o' => ((((Below.refl w1.heap.size w1).alloc (Nat.le_refl _) o').cell (show b < w1.heap.size from by have := HL.out.lt; omega)).trans ((hb1.cell HL.out.lt).trans c3))
      have HO0 := Lib.hid (prow_nil w1 w1.heap.size 41 (Nat.le_refl _))
      have HC1 : Hid (pK.C (w1.alloc (.cells #[] 41)) (some ⟨r, 0, none⟩) t.kids.length xs) := Kd.C_alloc (Kd.C_below HC.out hb1) _
      have HBa : Hid (Below w1.heap.size w1 (w1.alloc (.cells #[] 41))) := (Below.refl _ _).alloc (Nat.le_refl _) _
      have HX1 := Lib.hid hx1
      have HB1 := Lib.hid hb1
      have HS1 := Lib.hid hs1
      clear hW1 hx1 hb1 hs1
      go_wp2_with (first | ((with_reducible refine gate_dst (N := 20) rfl ?_); refine Kd.R_append_row pE 0 (w0 := w1) (W := w1.alloc (.cells #[] 41)) w1.heap.size ?hgd (.tmp 15) (.tmp 19) 47 41 (.pointer none) 8 ?ho Try.underlying47 ?hinfo ?hz ?hb0 (.slice (some ⟨w1.heap.size, 0, none⟩) 0 0) [] xs (some ⟨r, 0, none⟩) t.kids.length cap (fun _ => True) ?hs ?hx (fun _ _ => trivial) HO0.out HC1.out HBa.out HBa.out.size ?hl ?h; (case hgd => rfl); (case ho => rfl); (case hinfo => kernel_rfl); (case hz => rfl); (case hb0 => omega); (case hs => rfl); (case hx => rfl); (case hl => simp only [List.length_nil]; omega); intro v1 w3 hr3 hb3 _ _; obtain ⟨A3, c3', rfl⟩ := Kd.R_slice hr3; have hx3 := (hb3.block w.heap.size (by have := HS1.out; omega)).trans HX1.out; have g3c : w3.cell? ⟨w.heap.size, 3, none⟩ = some (.slice (some ⟨r, 0, none⟩) t.kids.length cap) := blk_cell hx3 3; have f3 := blk_frozen hx3 3; have HX3 := Lib.hid hx3; have HR3 := Lib.hid hr3; have HB3 := Lib.hid hb3; clear hx3 hr3 hb3))
      obtain ⟨g3, cap3, he3, hg3, hg3l, cells, hcs⟩ := Kd.R_form HR3.out (by simp only [List.nil_append]; omega)
      injection he3 with he4 _ he5
      subst he4 he5
      obtain ⟨W, hW⟩ : ∃ W, W = w3.setCell ⟨w.heap.size, 3, none⟩ (.slice (some ⟨g3, 0, none⟩) t.kids.length c3') := ⟨_, rfl⟩
      rw [← hW]
      have hs1 := HS1.out
      have hbW : Below w.heap.size w W := by
        rw [hW]
        exact (below_then HB1.out HB1.out.size HB3.out).setCell (Nat.le_refl _) _
      have hxW : W.heap[w.heap.size]? = some (.cells #[.int .u8 (vl t.kind), .int .u8 (vl t.na), .int .u8 (vl t.nb), .slice (some ⟨g3, 0, none⟩) t.kids.length c3'] 49 (0, 0)) := by
        rw [hW]; exact blk_put HX3.out 3 _ rfl
      have hrW : pK.R 41 W w1.heap.size (fun _ => True) (.slice (some ⟨g3, 0, none⟩) xs.length c3') xs := by
        rw [hW]
        have h := Kd.R_mono (Kd.R_far (p := ⟨w.heap.size, 3, none⟩) (Kd.R_mono (Kd.R_bound HR3.out) (ok' := fun k => w1.heap.size ≤ k) (fun k hk => hk.2.1)) (fun k hk => by show k ≠ w.heap.size; omega) (.slice (some ⟨g3, 0, none⟩) t.kids.length c3')) (ok' := fun _ => True) (fun _ _ => trivial)
        simpa [hxl] using h
      have hrc := Kd.R_cell 0 hrW (j : Int) (by omega) (by omega)
      rw [Int.toNat_natCast, show rdOf 0 xs (j : Int) = kx from by unfold rdOf; simp [List.getD, hkx]] at hrc
      have x3 : W.cell? ⟨w.heap.size, 3, none⟩ = some (.slice (some ⟨g3, 0, none⟩) t.kids.length c3') := blk_cell hxW 3
      have y3 : W.cell? ⟨b, 3, none⟩ = some (.slice (some ⟨r, 0, none⟩) t.kids.length cap) := (hbW.cell HL.out.lt).trans c3
      have hrl : r < w.heap.size := World.block_lt_of_cell? w _ c4
      have y4 : W.cell? ⟨r, j, none⟩ = some (.pointer (some ⟨kx, 0, none⟩)) := (hbW.cell hrl).trans c4
      have s3 : W.cell? ⟨g3, j, none⟩ = some (.pointer (some ⟨kx, 0, none⟩)) := hrc.1
      have sf : W.frozen? ⟨g3, j, none⟩ = false := hrc.2
      have hex2 : (B (c :: l)).extract 1 (l.length + 1) = B l := by rw [B_extract]; simp
      have HKL := Lib.hid hklies
      have HB0W := Lib.hid (below_then HB00.out HB00.out.size hbW)
      have HRW := Lib.hid hrW
      have HXW := Lib.hid hxW
      have HBW := Lib.hid hbW
      have HLT : Hid (b < W.heap.size ∧ r < W.heap.size ∧ w.heap.size < W.heap.size ∧ g3 < W.heap.size) := ⟨Nat.lt_of_lt_of_le HL.out.lt hbW.size, Nat.lt_of_lt_of_le hrl hbW.size, blk_lt hxW, World.block_lt_of_cell? W _ s3⟩
      have hl1 : l.length ≤ n := by simp at hp; omega
      have n1 : (⟨g3, j, none⟩ : Addr) ≠ ⟨w.heap.size, 3, none⟩ := by intro h; injection h; omega
      have n2 : (⟨g3, j, none⟩ : Addr) ≠ ⟨b, 3, none⟩ := by intro h; injection h; have := HL.out.lt; omega
      have n3 : (⟨g3, j, none⟩ : Addr) ≠ ⟨r, j, none⟩ := by intro h; injection h; omega
      have FAR : Hid (∀ (w5 : World) (v : Value), Below W.heap.size W w5 → (w5.setCell ⟨g3, j, none⟩ v).cell? ⟨w.heap.size, 3, none⟩ = some (.slice (some ⟨g3, 0, none⟩) t.kids.length c3') ∧ (w5.setCell ⟨g3, j, none⟩ v).cell? ⟨b, 3, none⟩ = some (.slice (some ⟨r, 0, none⟩) t.kids.length cap) ∧ (w5.setCell ⟨g3, j, none⟩ v).cell? ⟨r, j, none⟩ = some (.pointer (some ⟨kx, 0, none⟩))) := fun w5 v hb5 =>
        ⟨(World.cell?_setCell_other w5 _ _ v n1).trans ((hb5.cell HLT.out.2.2.1).trans x3), (World.cell?_setCell_other w5 _ _ v n2).trans ((hb5.cell HLT.out.1).trans y3), (World.cell?_setCell_other w5 _ _ v n3).trans ((hb5.cell HLT.out.2.1).trans y4)⟩
      clear n1 n2 n3
      have q1 : (1 : Int) ≤ (l.length : Int) + 1 := by omega
      have q2 : (1 : Int) ≤ ((l.length + 1 : Nat) : Int) := by omega
      clear hW hbW hxW hrW hrc hcs hs1 e3 g3c f3
      go_region_held3 (fun w' => w'.cell? ⟨w.heap.size, 3, none⟩ = some (.slice (some ⟨g3, 0, none⟩) t.kids.length c3') ∧ w'.cell? ⟨b, 3, none⟩ = some (.slice (some ⟨r, 0, none⟩) t.kids.length cap) ∧ w'.cell? ⟨r, j, none⟩ = some (.pointer (some ⟨kx, 0, none⟩)))
        (first | exact ⟨x3, y3, y4⟩ | exact ⟨(hb5.cell HLT.out.2.2.1).trans x3, (hb5.cell HLT.out.1).trans y3, (hb5.cell HLT.out.2.1).trans y4⟩ | exact FAR.out _ _ hb5 | go_keep)
        (first | (go_at_call 72; refine (ih l t.kids[j] q w0 _ N kx x hl1 (by omega) HSUB.out HN.out HKL.out HQ0.out ?_).mono ?_; (exact ⟨HB0W.out.os, HB0W.out.tape, HB0W.out.output, HB0W.out.size, HB0W.out.block⟩); rintro e w5 ⟨y, rfl, hl5, hb5'⟩; have hb5 : Below W.heap.size W w5 := ⟨hb5'.os, hb5'.tape, hb5'.output, hb5'.size, hb5'.block⟩; have s5 : w5.cell? ⟨g3, j, none⟩ = some (.pointer (some ⟨kx, 0, none⟩)) := (hb5.cell HLT.out.2.2.2).trans s3; have sf5 : w5.frozen? ⟨g3, j, none⟩ = false := (hb5.frozen HLT.out.2.2.2).trans sf))
      have hl5b : Stays w0 W w5 N (putT q l t.kids[j]) y := hl5
      have HL5 := Lib.hid hl5b
      have HB5 := Lib.hid hb5
      clear hl5 hl5b hb5' s5 sf5 hb5
      go_wp2_with fail
      go_ret
      have hb6 : Below w.heap.size w (w5.setCell ⟨g3, j, none⟩ (.pointer (some ⟨y, 0, none⟩))) := (below_then HBW.out HBW.out.size HB5.out).setCell (show w.heap.size ≤ g3 by have := HS1.out; omega) _
      have hr5 := Kd.R_below HRW.out HB5.out
      have hr6 := (Kd.R_put hr5 (j : Int) y).1
      rw [Int.toNat_natCast] at hr6
      refine ⟨w.heap.size, rfl, fun w2 hw2 => ?_, hb6⟩
      have hsz : (w5.setCell ⟨g3, j, none⟩ (.pointer (some ⟨y, 0, none⟩))).heap.size = w5.heap.size := by simp [World.setCell]
      have hs1 := HS1.out
      have h0w := HB00.out.size
      have hxlo := HXL.out
      obtain ⟨p1, p2, p3, p4⟩ := HPUT.out
      obtain ⟨g4, cap4, he6, _, hg4l, cells4, hcs4⟩ := Kd.R_form hr6 (by rw [List.length_set]; omega)
      injection he6 with he7 _ _
      injection he7 with he7
      injection he7 with he7
      subst he7
      have hlt3 := HLT.out
      have hxo : w2.heap[w.heap.size]? = some (.cells #[.int .u8 (vl t.kind), .int .u8 (vl t.na), .int .u8 (vl t.nb), .slice (some ⟨g3, 0, none⟩) t.kids.length c3'] 49 (0, 0)) := by
        rw [hw2 _ (.inr (Nat.le_refl _)) (by rw [hsz]; exact Nat.lt_of_lt_of_le hlt3.2.2.1 HB5.out.size), Below.heap_setCell _ _ _ _ (show w.heap.size ≠ g3 by omega), HB5.out.block _ hlt3.2.2.1]
        exact HXW.out
      have hrow : w2.heap[g3]? = some (.cells cells4 41 (0, 0)) := by
        rw [hw2 g3 (.inr (by omega)) hg4l]; exact hcs4
      refine lies_of_row (xs := xs.set j y) (cap := c3') (Nat.le_trans HN.out h0w) (show N ≤ g3 by have := HN.out; omega) ?_ hrow (fun i x' hx' => ?_) (fun i hi => ?_) (by rw [p4, List.length_set]; omega)
      · refine ⟨49, ?_⟩
        rw [p1, p2, p3, p4, List.length_set]
        exact hxo
      · have hil : i < (xs.set j y).length := (List.getElem?_eq_some_iff.mp hx').1
        have hr7 : pK.R 41 (w5.setCell ⟨g3, j, none⟩ (pE y)) w1.heap.size (fun _ => True) (.slice (some ⟨g3, 0, none⟩) (xs.set j y).length c3') (xs.set j y) := by rw [List.length_set]; exact hr6
        have := (Kd.R_cell 0 hr7 (i : Int) (by omega) (by omega)).1
        rw [Int.toNat_natCast, blk_cell hcs4 i, show rdOf 0 (xs.set j y) (i : Int) = x' from by unfold rdOf; simp [List.getD, hx']] at this
        exact this
      · rw [p4, List.length_set] at hi
        by_cases hij : i = j
        · subst hij
          refine ⟨y, by rw [List.getElem?_set_self (by omega)], ?_⟩
          have e : (putT q (c :: l) t).kids[i]'(by rw [p4, List.length_set]; omega) = putT q l t.kids[i] := by simp [p4]
          rw [e]
          refine HL5.out w2 fun k hk hk2 => ?_
          have hkg : k ≠ g3 := by omega
          have hkw : k < w0.heap.size ∨ w.heap.size ≤ k := by have := HBW.out.size; omega
          rw [hw2 k hkw (by rw [hsz]; exact hk2), Below.heap_setCell _ _ _ _ hkg]
        · obtain ⟨x', hx', hlx⟩ := HKS.out i hi
          refine ⟨x', by rw [List.getElem?_set_ne (Ne.symm hij)]; exact hx', ?_⟩
          have e : (putT q (c :: l) t).kids[i]'(by rw [p4, List.length_set]; omega) = t.kids[i] := by simp [p4, List.getElem_set_ne (Ne.symm hij)]
          rw [e]
          refine hlx.keep fun k _ hk => ?_
          have hkg : k ≠ g3 := by omega
          have hkW : k < W.heap.size := by have := HBW.out.size; omega
          rw [hw2 k (.inl hk) (by rw [hsz]; exact Nat.lt_of_lt_of_le hkW HB5.out.size), Below.heap_setCell _ _ _ _ hkg, HB5.out.block k hkW]
          exact HB0W.out.block k hk

end Go.Proofs.Ytjinjanjjecmiaa
