/- The walk of alpha, sign by sign. -/
import Derived.Test.YtjinjanjjecmiaaAlphaW
import Derived.Deep.RegionHeld3
import Derived.Deep.QuietTactic
import Derived.BigQuiet
import Derived.Test.YtjinjanjjecmiaaStill
namespace Go.Proofs.Ytjinjanjjecmiaa
open Go.RowKit Go.Proofs.YtjinjanjjecmiaaW.PrintWords Go.Proofs.YtjinjanjjecmiaaW.PrintLast Go.Proofs.YtjinjanjjecmiaaW.PrintMore
set_option linter.unusedVariables false
set_option linter.unusedSimpArgs false

theorem Levs.frozen {w : World} {g : Nat} {X : List UInt8} (h : Levs w g X) (i : Nat) : w.frozen? ⟨g, i, none⟩ = false := by
  obtain ⟨e, h⟩ := h; exact blk_frozen h i
theorem Levs.drew {w : World} {g : Nat} {X : List UInt8} (h : Levs w g X) : Levs w.drew g X := by
  obtain ⟨e, h⟩ := h; exact ⟨e, h⟩
theorem still_load {P : Program} {ops : Array Oper} {w : World} {Q : Act → Prop} {rest : List Oper} {a : Act} {o : Oper} (ty : TypeId) (x : Operand) (ho : o.op = .load ty x) (b off : Nat) (hx : a.eval x = .pointer (some ⟨b, off, none⟩)) (cs : List Value) (d : TypeDesc) (hc : w.rangeAt b off cs)
    (hu : P.underlying ty = some d) (hd : d.isRow = true) (hi : (P.info? ty).map (·.size) = some cs.length) (hw : Region.wanted o (yielded ops a.tmps) = true) (h : wpStill P ops w Q rest (a.put o.dst (.agg cs.toArray))) : wpStill P ops w Q (o :: rest) a :=
  wpStill_step fun K hK => by
    rw [if_pos (by rw [hw])]
    unfold Oper.still execOp
    simp only [ho, hx, Instr.loadAt, Instr.sureAddr, Sem.run_bind, Sem.run_pure, Result.andThen_ok, run_loadVar_mid w b off ty cs d hc hu hd hi]
    exact ⟨rfl, hK _ h⟩
theorem below_stores {w W : World} (h : Below w.heap.size w W) (i j : Nat) (v : Value) : Below w.heap.size w (((W.setCell ⟨w.heap.size, i, none⟩ v).setCell ⟨w.heap.size + 1, j, none⟩ v).drew) :=
  pw_below_drewN ((h.setCell (Nat.le_refl _) _).setCell (Nat.le_succ _) _) 1
theorem levs_stores {W : World} {g i j : Nat} {X Y : List UInt8} {c c' : UInt8} {d : Int} (h : Levs W g X ∧ Levs W (g + 1) Y) (hi : i < 26) (hj : j < 26) (hc : c = letAt i) (hc' : c' = letAt j) (hd : d = X.length) (hXY : X.length = Y.length) :
    Levs (((W.setCell ⟨g, i, none⟩ (.int .i64 (d + 1))).setCell ⟨g + 1, j, none⟩ (.int .i64 (d + 1))).drew) g (c :: X) ∧ Levs (((W.setCell ⟨g, i, none⟩ (.int .i64 (d + 1))).setCell ⟨g + 1, j, none⟩ (.int .i64 (d + 1))).drew) (g + 1) (c' :: Y) := by
  have e1 : d + 1 = ((X.length + 1 : Nat) : Int) := by omega
  have e2 : d + 1 = ((Y.length + 1 : Nat) : Int) := by omega
  subst hc hc'
  constructor
  · refine Levs.drew ?_
    refine Levs.far ?_ (by omega) j _
    rw [e1]
    exact h.1.put hi
  · refine Levs.drew ?_
    have := (h.2.far (show g ≠ g + 1 by omega) i (.int .i64 (d + 1))).put hj
    rw [← e2] at this
    exact this
theorem far_stores {W : World} {g i j b k : Nat} {v x : Value} (n1 : ¬ b = g) (n3 : ¬ b = g + 1) (h : W.cell? ⟨b, k, none⟩ = some x) : (((W.setCell ⟨g, i, none⟩ v).setCell ⟨g + 1, j, none⟩ v).drew).cell? ⟨b, k, none⟩ = some x :=
  (World.cell?_setCell_other _ _ _ v (by intro h; injection h with h1; exact n3 h1.symm)).trans ((World.cell?_setCell_other _ _ _ v (by intro h; injection h with h1; exact n1 h1.symm)).trans h)
def AlUpto (n : Nat) : Prop := ∀ (t u : Tm) (X Y : List UInt8) (d : Int) (w : World) (N b c : Nat), d = X.length → t.size ≤ n → n ≤ 1000 → X.length = Y.length → X.length + t.size ≤ 100000 → Wf isLet t → Wf isLet u → Lies w N t b → Lies w N u c →
    Calls Try.prog 70 #[.pointer (some ⟨b, 0, none⟩), .pointer (some ⟨c, 0, none⟩), .agg (levA X), .agg (levA Y), .int .i64 d] w fun e w' => e = .returned (.bool (alp t u X Y)) ∧ Below w.heap.size w w'

theorem below_boxes (w : World) (o1 o2 : _) : Below w.heap.size w ((w.alloc o1).alloc o2) := ((Below.refl _ _).alloc (Nat.le_refl _) _).alloc (by simp) _
theorem levs_boxes (w : World) (X Y : List UInt8) : Levs ((w.alloc (.cells (levA X) 62)).alloc (.cells (levA Y) 62)) w.heap.size X ∧ Levs ((w.alloc (.cells (levA X) 62)).alloc (.cells (levA Y) 62)) (w.heap.size + 1) Y := by
  have h1 : Levs (w.alloc (.cells (levA X) 62)) w.heap.size X := ⟨_, heap_alloc_new w _⟩
  refine ⟨h1.below ((Below.refl _ _).alloc (Nat.le_refl _) _), ?_⟩
  have h2 := heap_alloc_new (w.alloc (.cells (levA X) 62)) (.cells (levA Y) 62)
  rw [show (w.alloc (.cells (levA X) 62)).heap.size = w.heap.size + 1 from by simp] at h2
  exact ⟨_, h2⟩
attribute [local irreducible] wpStill
set_option maxHeartbeats 1000000 in
theorem alpha_any (n : Nat) : AlUpto n := by
  induction n with
  | zero => intro t u X Y d w N b c _ hs; have := t.size_pos; omega
  | succ n ih =>
    intro t u X Y d w N b c hd hs hn hXY hX hw hw2 hl hl2
    have hz1 := levA_size X
    have hz2 := levA_size Y
    obtain ⟨o1, cap1, c0, c1, c2, c3, hk1⟩ := hl.at
    obtain ⟨o2, cap2, d0, d1, d2, d3, hk2⟩ := hl2.at
    have hbl : b < w.heap.size := hl.lt
    have hcl : c < w.heap.size := hl2.lt
    by_cases hk : ¬ t.kind = u.kind
    · have hv : ¬ vl t.kind = vl u.kind := fun h => hk (vl_inj.mp h)
      have hv2 : (vl t.kind != vl u.kind) = true := by rw [bne_iff_ne]; exact hv
      have HA := Lib.hid (alp_kind hk X Y)
      clear hk hk1 hk2 hl hl2 hw hw2
      go_enter Try.func70, Try.ntmps70
      go_upto_region 2 with fail
      obtain ⟨W, hW⟩ : ∃ W, W = (w.alloc (.cells (levA X) 62)).alloc (.cells (levA Y) 62) := ⟨_, rfl⟩
      rw [← hW]
      have hbW : Below w.heap.size w W := by rw [hW]; exact below_boxes _ _ _
      have HLV : Hid (Levs W w.heap.size X ∧ Levs W (w.heap.size + 1) Y) := by rw [hW]; exact levs_boxes w X Y
      have HSZ : Hid (W.heap.size = w.heap.size + 2) := by rw [hW]; simp [Hid]
      have f0 := (hbW.cell hbl).trans c0
      have f1 := (hbW.cell hbl).trans c1
      have f2 := (hbW.cell hbl).trans c2
      have f3 := (hbW.cell hbl).trans c3
      have g0 := (hbW.cell hcl).trans d0
      have g1 := (hbW.cell hcl).trans d1
      have g2 := (hbW.cell hcl).trans d2
      have g3 := (hbW.cell hcl).trans d3
      have HBW := Lib.hid hbW
      have HCS := Lib.hid (show b < W.heap.size ∧ c < W.heap.size from ⟨Nat.lt_of_lt_of_le hbl hbW.size, Nat.lt_of_lt_of_le hcl hbW.size⟩)
      clear hW c0 c1 c2 c3 d0 d1 d2 d3 hbl hcl hbW
      go_quiet (fail)
      go_wp2_with fail
      go_ret
      exact ⟨by rw [HA.out]; rfl, pw_below_drewN HBW.out _⟩
    replace hk := Decidable.not_not.mp hk
    obtain ⟨hkl, hcase⟩ := alp_kids hw hw2 hk X Y
    have hv2 : (vl t.kind != vl u.kind) = false := by rw [hk]; simp
    have hlen : (((t.kids.length : Nat) : Int) != ((u.kids.length : Nat) : Int)) = false := by rw [hkl]; simp
    have hkt : t.kids.length ≤ 2 := by cases t <;> simp [Tm.kids]
    have hd0 : 0 ≤ d := by omega
    have hd1 : d ≤ 100000 := by omega
    have HK1 := Lib.hid hk1
    have HK2 := Lib.hid hk2
    have HL := Lib.hid hl
    have HL2 := Lib.hid hl2
    have HKL := Lib.hid hkl
    have HD := Lib.hid hd
    have HXY := Lib.hid hXY
    have HX := Lib.hid hX
    have HBX : Hid (X.length ≤ 1000000 ∧ Y.length ≤ 1000000) := ⟨by omega, by omega⟩
    clear hkl hd hXY hX
    have HW := Lib.hid hw
    have HW2 := Lib.hid hw2
    clear hk1 hk2 hl hl2 hw hw2 hk
    rcases hcase with ⟨hkd, a1, a2, b1, b2, hal⟩ | ⟨hkd, a1, a2, b1, b2, hal⟩ | ⟨hkd, na0, a2, b2, hal⟩ | ⟨hkd, hkd2, na0, nb0, hal⟩
    · have hna : (vl t.na != 0) = true := by obtain ⟨i, _, h, _⟩ := let_index a1; rw [bne_iff_ne]; omega
      have HNB : Hid ((vl t.nb != 0) = true) := by obtain ⟨i, _, h, _⟩ := let_index a2; rw [Hid, bne_iff_ne]; omega
      have hbi : bindsB t.kind = false := by rcases hkd with h | h <;> simp [bindsB, h]
      rcases hs1 : sameI X Y t.na u.na with _ | _
      · have HA : Hid (alp t u X Y = false) := by rw [Hid, hal, hs1]; rfl
        go_enter Try.func70, Try.ntmps70
        go_upto_region 2 with fail
        obtain ⟨W, hW⟩ : ∃ W, W = (w.alloc (.cells (levA X) 62)).alloc (.cells (levA Y) 62) := ⟨_, rfl⟩
        rw [← hW]
        have hbW : Below w.heap.size w W := by rw [hW]; exact below_boxes _ _ _
        have HLV : Hid (Levs W w.heap.size X ∧ Levs W (w.heap.size + 1) Y) := by rw [hW]; exact levs_boxes w X Y
        have HSZ : Hid (W.heap.size = w.heap.size + 2) := by rw [hW]; simp [Hid]
        have f0 := (hbW.cell hbl).trans c0
        have f1 := (hbW.cell hbl).trans c1
        have f2 := (hbW.cell hbl).trans c2
        have f3 := (hbW.cell hbl).trans c3
        have g0 := (hbW.cell hcl).trans d0
        have g1 := (hbW.cell hcl).trans d1
        have g2 := (hbW.cell hcl).trans d2
        have g3 := (hbW.cell hcl).trans d3
        have HBW := Lib.hid hbW
        have HCS := Lib.hid (show b < W.heap.size ∧ c < W.heap.size from ⟨Nat.lt_of_lt_of_le hbl hbW.size, Nat.lt_of_lt_of_le hcl hbW.size⟩)
        clear hW c0 c1 c2 c3 d0 d1 d2 d3 hbl hcl hbW
        have cs1 : ∀ m, Calls Try.prog 97 #[.int .u8 (vl t.na), .int .u8 (vl u.na), .pointer (some ⟨w.heap.size, 0, none⟩), .pointer (some ⟨w.heap.size + 1, 0, none⟩)] (W.drewN m) fun e w' => e = .returned (.bool false) ∧ ∃ j, w' = (W.drewN m).drewN j := fun m => by
          have h := same_calls a1 b1 (W.drewN m) w.heap.size (w.heap.size + 1) X Y (HLV.out.1.drewN m) (HLV.out.2.drewN m) HBX.out.1 HBX.out.2
          rw [hs1] at h
          exact h
        clear hal hs1 hkd
        go_quiet (first | (go_at_call 97; exact Calls.quiet_of (cs1 _)))
        go_wp2_with fail
        go_ret
        exact ⟨by rw [HA.out]; rfl, pw_below_drewN HBW.out _⟩
      rcases hs2 : sameI X Y t.nb u.nb with _ | _
      · have HA : Hid (alp t u X Y = false) := by rw [Hid, hal, hs1, hs2]; rfl
        go_enter Try.func70, Try.ntmps70
        go_upto_region 2 with fail
        obtain ⟨W, hW⟩ : ∃ W, W = (w.alloc (.cells (levA X) 62)).alloc (.cells (levA Y) 62) := ⟨_, rfl⟩
        rw [← hW]
        have hbW : Below w.heap.size w W := by rw [hW]; exact below_boxes _ _ _
        have HLV : Hid (Levs W w.heap.size X ∧ Levs W (w.heap.size + 1) Y) := by rw [hW]; exact levs_boxes w X Y
        have HSZ : Hid (W.heap.size = w.heap.size + 2) := by rw [hW]; simp [Hid]
        have f0 := (hbW.cell hbl).trans c0
        have f1 := (hbW.cell hbl).trans c1
        have f2 := (hbW.cell hbl).trans c2
        have f3 := (hbW.cell hbl).trans c3
        have g0 := (hbW.cell hcl).trans d0
        have g1 := (hbW.cell hcl).trans d1
        have g2 := (hbW.cell hcl).trans d2
        have g3 := (hbW.cell hcl).trans d3
        have HBW := Lib.hid hbW
        have HCS := Lib.hid (show b < W.heap.size ∧ c < W.heap.size from ⟨Nat.lt_of_lt_of_le hbl hbW.size, Nat.lt_of_lt_of_le hcl hbW.size⟩)
        clear hW c0 c1 c2 c3 d0 d1 d2 d3 hbl hcl hbW
        have cs1 : ∀ m, Calls Try.prog 97 #[.int .u8 (vl t.na), .int .u8 (vl u.na), .pointer (some ⟨w.heap.size, 0, none⟩), .pointer (some ⟨w.heap.size + 1, 0, none⟩)] (W.drewN m) fun e w' => e = .returned (.bool true) ∧ ∃ j, w' = (W.drewN m).drewN j := fun m => by
          have h := same_calls a1 b1 (W.drewN m) w.heap.size (w.heap.size + 1) X Y (HLV.out.1.drewN m) (HLV.out.2.drewN m) HBX.out.1 HBX.out.2
          rw [hs1] at h
          exact h
        have HS2 := Lib.hid hs2
        clear hal hs1 hs2 hkd
        go_quiet (first | (go_at_call 97; exact Calls.quiet_of (cs1 _)))
        obtain ⟨W1, hW1⟩ : ∃ W1, W1 = W.drewN nq := ⟨_, rfl⟩
        rw [← hW1]
        have HLV1 : Hid (Levs W1 w.heap.size X ∧ Levs W1 (w.heap.size + 1) Y) := by rw [hW1]; exact ⟨HLV.out.1.drewN _, HLV.out.2.drewN _⟩
        have HBW1 : Hid (Below w.heap.size w W1) := by rw [hW1]; exact pw_below_drewN HBW.out _
        have HCS1 : Hid (b < W1.heap.size ∧ c < W1.heap.size ∧ W1.heap.size = w.heap.size + 2) := by rw [hW1]; exact ⟨HCS.out.1, HCS.out.2, HSZ.out⟩
        replace f0 : W1.cell? ⟨b, 0, none⟩ = some (.int .u8 (vl t.kind)) := by rw [hW1]; exact f0
        replace f2 : W1.cell? ⟨b, 2, none⟩ = some (.int .u8 (vl t.nb)) := by rw [hW1]; exact f2
        replace f3 : W1.cell? ⟨b, 3, none⟩ = some (.slice o1 t.kids.length cap1) := by rw [hW1]; exact f3
        replace g2 : W1.cell? ⟨c, 2, none⟩ = some (.int .u8 (vl u.nb)) := by rw [hW1]; exact g2
        replace g3 : W1.cell? ⟨c, 3, none⟩ = some (.slice o2 u.kids.length cap2) := by rw [hW1]; exact g3
        clear hW1 f1 g0 g1
        have hbc := binds_calls t.kind b W1 f0
        rw [hbi] at hbc
        go_wp2_with fail
        refine hbc.mono ?_
        rintro e w' ⟨rfl, rfl⟩
        clear hbc
        have hnb := HNB.out
        go_wp2_with fail
        have cs2 : ∀ m, Calls Try.prog 97 #[.int .u8 (vl t.nb), .int .u8 (vl u.nb), .pointer (some ⟨w.heap.size, 0, none⟩), .pointer (some ⟨w.heap.size + 1, 0, none⟩)] (W1.drewN m) fun e w' => e = .returned (.bool false) ∧ ∃ j, w' = (W1.drewN m).drewN j := fun m => by
          have h := same_calls a2 b2 (W1.drewN m) w.heap.size (w.heap.size + 1) X Y (HLV1.out.1.drewN m) (HLV1.out.2.drewN m) HBX.out.1 HBX.out.2
          rw [HS2.out] at h
          exact h
        go_quiet (first | (go_at_call 97; exact Calls.quiet_of (cs2 _)))
        go_wp2_with fail
        go_ret
        exact ⟨by rw [HA.out]; rfl, pw_below_drewN HBW1.out _⟩
      · have HA : Hid (alp t u X Y = alps t.kids u.kids X Y) := by rw [Hid, hal, hs1, hs2]; rfl
        go_enter Try.func70, Try.ntmps70
        go_upto_region 2 with fail
        obtain ⟨W, hW⟩ : ∃ W, W = (w.alloc (.cells (levA X) 62)).alloc (.cells (levA Y) 62) := ⟨_, rfl⟩
        rw [← hW]
        have hbW : Below w.heap.size w W := by rw [hW]; exact below_boxes _ _ _
        have HLV : Hid (Levs W w.heap.size X ∧ Levs W (w.heap.size + 1) Y) := by rw [hW]; exact levs_boxes w X Y
        have HSZ : Hid (W.heap.size = w.heap.size + 2) := by rw [hW]; simp [Hid]
        have f0 := (hbW.cell hbl).trans c0
        have f1 := (hbW.cell hbl).trans c1
        have f2 := (hbW.cell hbl).trans c2
        have f3 := (hbW.cell hbl).trans c3
        have g0 := (hbW.cell hcl).trans d0
        have g1 := (hbW.cell hcl).trans d1
        have g2 := (hbW.cell hcl).trans d2
        have g3 := (hbW.cell hcl).trans d3
        have HBW := Lib.hid hbW
        have HCS := Lib.hid (show b < W.heap.size ∧ c < W.heap.size from ⟨Nat.lt_of_lt_of_le hbl hbW.size, Nat.lt_of_lt_of_le hcl hbW.size⟩)
        clear hW c0 c1 c2 c3 d0 d1 d2 d3 hbl hcl hbW
        have cs1 : ∀ m, Calls Try.prog 97 #[.int .u8 (vl t.na), .int .u8 (vl u.na), .pointer (some ⟨w.heap.size, 0, none⟩), .pointer (some ⟨w.heap.size + 1, 0, none⟩)] (W.drewN m) fun e w' => e = .returned (.bool true) ∧ ∃ j, w' = (W.drewN m).drewN j := fun m => by
          have h := same_calls a1 b1 (W.drewN m) w.heap.size (w.heap.size + 1) X Y (HLV.out.1.drewN m) (HLV.out.2.drewN m) HBX.out.1 HBX.out.2
          rw [hs1] at h
          exact h
        have HS2 := Lib.hid hs2
        clear hal hs1 hs2 hkd
        go_quiet (first | (go_at_call 97; exact Calls.quiet_of (cs1 _)))
        obtain ⟨W1, hW1⟩ : ∃ W1, W1 = W.drewN nq := ⟨_, rfl⟩
        rw [← hW1]
        have HLV1 : Hid (Levs W1 w.heap.size X ∧ Levs W1 (w.heap.size + 1) Y) := by rw [hW1]; exact ⟨HLV.out.1.drewN _, HLV.out.2.drewN _⟩
        have HBW1 : Hid (Below w.heap.size w W1) := by rw [hW1]; exact pw_below_drewN HBW.out _
        have HCS1 : Hid (b < W1.heap.size ∧ c < W1.heap.size ∧ W1.heap.size = w.heap.size + 2) := by rw [hW1]; exact ⟨HCS.out.1, HCS.out.2, HSZ.out⟩
        replace f0 : W1.cell? ⟨b, 0, none⟩ = some (.int .u8 (vl t.kind)) := by rw [hW1]; exact f0
        replace f2 : W1.cell? ⟨b, 2, none⟩ = some (.int .u8 (vl t.nb)) := by rw [hW1]; exact f2
        replace f3 : W1.cell? ⟨b, 3, none⟩ = some (.slice o1 t.kids.length cap1) := by rw [hW1]; exact f3
        replace g2 : W1.cell? ⟨c, 2, none⟩ = some (.int .u8 (vl u.nb)) := by rw [hW1]; exact g2
        replace g3 : W1.cell? ⟨c, 3, none⟩ = some (.slice o2 u.kids.length cap2) := by rw [hW1]; exact g3
        clear hW1 f1 g0 g1
        have hbc := binds_calls t.kind b W1 f0
        rw [hbi] at hbc
        go_wp2_with fail
        refine hbc.mono ?_
        rintro e w' ⟨rfl, rfl⟩
        clear hbc
        have hnb := HNB.out
        go_wp2_with fail
        have cs2 : ∀ m, Calls Try.prog 97 #[.int .u8 (vl t.nb), .int .u8 (vl u.nb), .pointer (some ⟨w.heap.size, 0, none⟩), .pointer (some ⟨w.heap.size + 1, 0, none⟩)] (W1.drewN m) fun e w' => e = .returned (.bool true) ∧ ∃ j, w' = (W1.drewN m).drewN j := fun m => by
          have h := same_calls a2 b2 (W1.drewN m) w.heap.size (w.heap.size + 1) X Y (HLV1.out.1.drewN m) (HLV1.out.2.drewN m) HBX.out.1 HBX.out.2
          rw [HS2.out] at h
          exact h
        go_quiet (first | (go_at_call 97; exact Calls.quiet_of (cs2 _)))
        obtain ⟨W2, hW2⟩ : ∃ W2, W2 = W1.drewN nq := ⟨_, rfl⟩
        rw [← hW2]
        have hb2 : Below w.heap.size w W2 := by rw [hW2]; exact pw_below_drewN HBW1.out _
        have HV2 : Hid (Levs W2 w.heap.size X ∧ Levs W2 (w.heap.size + 1) Y) := by rw [hW2]; exact ⟨HLV1.out.1.drewN _, HLV1.out.2.drewN _⟩
        have x3 : W2.cell? ⟨b, 3, none⟩ = some (.slice o1 t.kids.length cap1) := by rw [hW2]; exact id f3
        have y3 : W2.cell? ⟨c, 3, none⟩ = some (.slice o2 u.kids.length cap2) := by rw [hW2]; exact id g3
        have HB2 := Lib.hid hb2
        have HC2 : Hid (c < W2.heap.size) := Nat.lt_of_lt_of_le HL2.out.lt hb2.size
        have HDX : Hid (d = (List.length X : Int) ∧ List.length X = List.length Y ∧ List.length X + t.size ≤ 100001) := ⟨HD.out, HXY.out, (by have := HX.out; omega)⟩
        try clear hX2 hY2
        try clear e1 e2 s1 s2 s3 s4 n1 n2 n3 n4 n5 n6
        clear hW2 hb2 f0 f2 f3 g2 g3 HBW HCS HLV HSZ HBW1 HCS1 HLV1
        go_wp2_with fail
        go_loopw [98] (fun i wr => ∃ k : Nat, k ≤ t.kids.length ∧ i = .int .i64 k ∧ Hid (alps (t.kids.take k) (u.kids.take k) X Y = true) ∧ Below W2.heap.size W2 wr) (fun i _ => t.kids.length - (intOf i).toNat)
        case atStart => exact ⟨0, Nat.zero_le _, rfl, by simp [alps, Hid], Below.refl _ _⟩
        case round =>
          obtain ⟨k, hk, rfl, hac, hbr⟩ := hrel
          have HBR := Lib.hid hbr
          have HBWR := Lib.hid (below_then HB2.out HB2.out.size hbr)
          by_cases hlt : k < t.kids.length
          · have hlt2 : k < u.kids.length := by have := HKL.out; omega
            obtain ⟨r1, x1, rfl, e1, lx1⟩ := HK1.out k hlt
            obtain ⟨r2, x2, rfl, e2, lx2⟩ := HK2.out k hlt2
            have p1 := (HBWR.out.cell (World.block_lt_of_cell? w _ e1)).trans e1
            have p2 := (HBWR.out.cell (World.block_lt_of_cell? w _ e2)).trans e2
            have p3 := (hbr.cell HC2.out).trans y3
            have HV3 : Hid (Levs wr w.heap.size X ∧ Levs wr (w.heap.size + 1) Y) := ⟨HV2.out.1.below hbr, HV2.out.2.below hbr⟩
            have hU := Try.underlying62
            have hI1 : (Try.prog.info? 62).map (·.size) = some (levL X).length := by rw [levL_len]; kernel_rfl
            have hI2 : (Try.prog.info? 62).map (·.size) = some (levL Y).length := by rw [levL_len]; kernel_rfl
            have hlt3 : (k : Int) < (u.kids.length : Int) := by omega
            have hlt4 : (k : Int) < (t.kids.length : Int) := by omega
            have HL1 := Lib.hid (lx1.below HBWR.out)
            have HL2' := Lib.hid (lx2.below HBWR.out)
            have HLT : Hid (c < wr.heap.size ∧ r2 < wr.heap.size) := ⟨Nat.lt_of_lt_of_le HC2.out hbr.size, World.block_lt_of_cell? wr _ p2⟩
            have hsz := kid_le t k hlt
            clear e1 e2 lx1 lx2 hbr
            have HI := Lib.hid (ih t.kids[k] u.kids[k] X Y d (wr.drewN 1) N x1 x2 HDX.out.1 (by omega) (by omega) HDX.out.2.1 (by have := HDX.out.2.2; omega) (kid_wf HW.out k hlt) (kid_wf HW2.out k hlt2) (HL1.out.drewN 1) (HL2'.out.drewN 1))
            have HAT := Lib.hid (alps_take (X := X) (Y := Y) k hlt hlt2)
            have HAF := Lib.hid (alps_false (X := X) (Y := Y) k hlt hlt2)
            clear hsz
            rcases hr : alp t.kids[k] u.kids[k] X Y with _ | _
            · have HA2 : Hid (alp t u X Y = false) := by rw [Hid, HA.out]; exact HAF.out hr
              rw [hr] at HI
              clear hr HAT HAF
              go_upto_region 12 with fail
              refine wp_region_still_tail 11 (by kernel_rfl) (by kernel_rfl) ?_
              simp only [List.take_succ_cons, List.take_zero, List.drop_succ_cons, List.drop_zero]
              change wpStill _ _ (wr.drewN 1) (fun a' => wpList _ _ _ _ a' (wr.drewN 1)) _ _
              have T : Hid (Levs (wr.drewN 1) w.heap.size X ∧ Levs (wr.drewN 1) (w.heap.size + 1) Y ∧ Below wr.heap.size wr (wr.drewN 1)) := ⟨HV3.out.1.drewN 1, HV3.out.2.drewN 1, pw_below_drewN (Below.refl _ _) 1⟩
              replace p2 : (wr.drewN 1).cell? ⟨r2, k, none⟩ = some (.pointer (some ⟨x2, 0, none⟩)) := p2
              replace p3 : (wr.drewN 1).cell? ⟨c, 3, none⟩ = some (.slice (some ⟨r2, 0, none⟩) u.kids.length cap2) := p3
              generalize wr.drewN 1 = W5 at T p2 p3 HI ⊢
              iterate 8 still_step
              refine still_load 62 (.tmp 7) rfl w.heap.size 0 rfl (levL X) _ T.out.1.range hU rfl hI1 rfl ?_
              simp only [Act.put, List.setIfInBounds_toArray, List.set_cons_zero, List.set_cons_succ]
              refine still_load 62 (.tmp 8) rfl (w.heap.size + 1) 0 rfl (levL Y) _ T.out.2.1.range hU rfl hI2 rfl ?_
              simp only [Act.put, List.setIfInBounds_toArray, List.set_cons_zero, List.set_cons_succ]
              still_step
              refine wpStill_nil ?_
              clear hU hI1 hI2 p2 p3
              go_wp2_with fail
              refine HI.out.mono ?_
              rintro e w5 ⟨rfl, hb5⟩
              have HB5 : Hid (Below wr.heap.size wr w5) := below_then T.out.2.2 T.out.2.2.size hb5
              clear hb5
              go_wp2_with fail
              go_ret
              exact ⟨by rw [HA2.out]; rfl, below_then HBWR.out HBWR.out.size HB5.out⟩
            · have HA2 : Hid (alps (t.kids.take (k + 1)) (u.kids.take (k + 1)) X Y = true) := by rw [Hid, HAT.out, hac.out, hr]; rfl
              rw [hr] at HI
              clear hr HAT HAF
              go_upto_region 12 with fail
              refine wp_region_still_tail 11 (by kernel_rfl) (by kernel_rfl) ?_
              simp only [List.take_succ_cons, List.take_zero, List.drop_succ_cons, List.drop_zero]
              change wpStill _ _ (wr.drewN 1) (fun a' => wpList _ _ _ _ a' (wr.drewN 1)) _ _
              have T : Hid (Levs (wr.drewN 1) w.heap.size X ∧ Levs (wr.drewN 1) (w.heap.size + 1) Y ∧ Below wr.heap.size wr (wr.drewN 1)) := ⟨HV3.out.1.drewN 1, HV3.out.2.drewN 1, pw_below_drewN (Below.refl _ _) 1⟩
              replace p2 : (wr.drewN 1).cell? ⟨r2, k, none⟩ = some (.pointer (some ⟨x2, 0, none⟩)) := p2
              replace p3 : (wr.drewN 1).cell? ⟨c, 3, none⟩ = some (.slice (some ⟨r2, 0, none⟩) u.kids.length cap2) := p3
              generalize wr.drewN 1 = W5 at T p2 p3 HI ⊢
              iterate 8 still_step
              refine still_load 62 (.tmp 7) rfl w.heap.size 0 rfl (levL X) _ T.out.1.range hU rfl hI1 rfl ?_
              simp only [Act.put, List.setIfInBounds_toArray, List.set_cons_zero, List.set_cons_succ]
              refine still_load 62 (.tmp 8) rfl (w.heap.size + 1) 0 rfl (levL Y) _ T.out.2.1.range hU rfl hI2 rfl ?_
              simp only [Act.put, List.setIfInBounds_toArray, List.set_cons_zero, List.set_cons_succ]
              still_step
              refine wpStill_nil ?_
              clear hU hI1 hI2 p2 p3
              go_wp2_with fail
              refine HI.out.mono ?_
              rintro e w5 ⟨rfl, hb5⟩
              have HB5 : Hid (Below wr.heap.size wr w5) := below_then T.out.2.2 T.out.2.2.size hb5
              clear hb5
              go_wp2_with fail
              go_roundw
              case rel => exact ⟨k + 1, by omega, by go_num, HA2, below_then HBR.out HBR.out.size HB5.out⟩
              case measure => simp [intOf]; omega
          · have HF : Hid (alp t u X Y = true) := by
              have h := hac.out
              rw [List.take_of_length_le (by omega : t.kids.length ≤ k), List.take_of_length_le (by have := HKL.out; omega : u.kids.length ≤ k)] at h
              rw [Hid, HA.out]; exact h
            go_wp2_with fail
            go_ret
            exact ⟨by rw [HF.out]; rfl, HBWR.out⟩
    · have hna : (vl t.na != 0) = true := by obtain ⟨i, _, h, _⟩ := let_index a1; rw [bne_iff_ne]; omega
      have hbi : bindsB t.kind = true := by simp [bindsB, hkd]
      rcases hs1 : sameI X Y t.na u.na with _ | _
      · have HA : Hid (alp t u X Y = false) := by rw [Hid, hal, hs1]; rfl
        go_enter Try.func70, Try.ntmps70
        go_upto_region 2 with fail
        obtain ⟨W, hW⟩ : ∃ W, W = (w.alloc (.cells (levA X) 62)).alloc (.cells (levA Y) 62) := ⟨_, rfl⟩
        rw [← hW]
        have hbW : Below w.heap.size w W := by rw [hW]; exact below_boxes _ _ _
        have HLV : Hid (Levs W w.heap.size X ∧ Levs W (w.heap.size + 1) Y) := by rw [hW]; exact levs_boxes w X Y
        have HSZ : Hid (W.heap.size = w.heap.size + 2) := by rw [hW]; simp [Hid]
        have f0 := (hbW.cell hbl).trans c0
        have f1 := (hbW.cell hbl).trans c1
        have f2 := (hbW.cell hbl).trans c2
        have f3 := (hbW.cell hbl).trans c3
        have g0 := (hbW.cell hcl).trans d0
        have g1 := (hbW.cell hcl).trans d1
        have g2 := (hbW.cell hcl).trans d2
        have g3 := (hbW.cell hcl).trans d3
        have HBW := Lib.hid hbW
        have HCS := Lib.hid (show b < W.heap.size ∧ c < W.heap.size from ⟨Nat.lt_of_lt_of_le hbl hbW.size, Nat.lt_of_lt_of_le hcl hbW.size⟩)
        clear hW c0 c1 c2 c3 d0 d1 d2 d3 hbl hcl hbW
        have cs1 : ∀ m, Calls Try.prog 97 #[.int .u8 (vl t.na), .int .u8 (vl u.na), .pointer (some ⟨w.heap.size, 0, none⟩), .pointer (some ⟨w.heap.size + 1, 0, none⟩)] (W.drewN m) fun e w' => e = .returned (.bool false) ∧ ∃ j, w' = (W.drewN m).drewN j := fun m => by
          have h := same_calls a1 b1 (W.drewN m) w.heap.size (w.heap.size + 1) X Y (HLV.out.1.drewN m) (HLV.out.2.drewN m) HBX.out.1 HBX.out.2
          rw [hs1] at h
          exact h
        clear hal hs1 hkd
        go_quiet (first | (go_at_call 97; exact Calls.quiet_of (cs1 _)))
        go_wp2_with fail
        go_ret
        exact ⟨by rw [HA.out]; rfl, pw_below_drewN HBW.out _⟩
      · have HA : Hid (alp t u X Y = alps t.kids u.kids (t.nb :: X) (u.nb :: Y)) := by rw [Hid, hal, hs1]; rfl
        go_enter Try.func70, Try.ntmps70
        go_upto_region 2 with fail
        obtain ⟨W, hW⟩ : ∃ W, W = (w.alloc (.cells (levA X) 62)).alloc (.cells (levA Y) 62) := ⟨_, rfl⟩
        rw [← hW]
        have hbW : Below w.heap.size w W := by rw [hW]; exact below_boxes _ _ _
        have HLV : Hid (Levs W w.heap.size X ∧ Levs W (w.heap.size + 1) Y) := by rw [hW]; exact levs_boxes w X Y
        have HSZ : Hid (W.heap.size = w.heap.size + 2) := by rw [hW]; simp [Hid]
        have f0 := (hbW.cell hbl).trans c0
        have f1 := (hbW.cell hbl).trans c1
        have f2 := (hbW.cell hbl).trans c2
        have f3 := (hbW.cell hbl).trans c3
        have g0 := (hbW.cell hcl).trans d0
        have g1 := (hbW.cell hcl).trans d1
        have g2 := (hbW.cell hcl).trans d2
        have g3 := (hbW.cell hcl).trans d3
        have HBW := Lib.hid hbW
        have HCS := Lib.hid (show b < W.heap.size ∧ c < W.heap.size from ⟨Nat.lt_of_lt_of_le hbl hbW.size, Nat.lt_of_lt_of_le hcl hbW.size⟩)
        clear hW c0 c1 c2 c3 d0 d1 d2 d3 hbl hcl hbW
        have cs1 : ∀ m, Calls Try.prog 97 #[.int .u8 (vl t.na), .int .u8 (vl u.na), .pointer (some ⟨w.heap.size, 0, none⟩), .pointer (some ⟨w.heap.size + 1, 0, none⟩)] (W.drewN m) fun e w' => e = .returned (.bool true) ∧ ∃ j, w' = (W.drewN m).drewN j := fun m => by
          have h := same_calls a1 b1 (W.drewN m) w.heap.size (w.heap.size + 1) X Y (HLV.out.1.drewN m) (HLV.out.2.drewN m) HBX.out.1 HBX.out.2
          rw [hs1] at h
          exact h
        clear hal hs1 hkd
        go_quiet (first | (go_at_call 97; exact Calls.quiet_of (cs1 _)))
        obtain ⟨W1, hW1⟩ : ∃ W1, W1 = W.drewN nq := ⟨_, rfl⟩
        rw [← hW1]
        have HLV1 : Hid (Levs W1 w.heap.size X ∧ Levs W1 (w.heap.size + 1) Y) := by rw [hW1]; exact ⟨HLV.out.1.drewN _, HLV.out.2.drewN _⟩
        have HBW1 : Hid (Below w.heap.size w W1) := by rw [hW1]; exact pw_below_drewN HBW.out _
        have HCS1 : Hid (b < W1.heap.size ∧ c < W1.heap.size ∧ W1.heap.size = w.heap.size + 2) := by rw [hW1]; exact ⟨HCS.out.1, HCS.out.2, HSZ.out⟩
        replace f0 : W1.cell? ⟨b, 0, none⟩ = some (.int .u8 (vl t.kind)) := by rw [hW1]; exact f0
        replace f2 : W1.cell? ⟨b, 2, none⟩ = some (.int .u8 (vl t.nb)) := by rw [hW1]; exact f2
        replace f3 : W1.cell? ⟨b, 3, none⟩ = some (.slice o1 t.kids.length cap1) := by rw [hW1]; exact f3
        replace g2 : W1.cell? ⟨c, 2, none⟩ = some (.int .u8 (vl u.nb)) := by rw [hW1]; exact g2
        replace g3 : W1.cell? ⟨c, 3, none⟩ = some (.slice o2 u.kids.length cap2) := by rw [hW1]; exact g3
        clear hW1 f1 g0 g1
        have hbc := binds_calls t.kind b W1 f0
        rw [hbi] at hbc
        go_wp2_with fail
        refine hbc.mono ?_
        rintro e w' ⟨rfl, rfl⟩
        clear hbc
        go_upto_region 6 with fail
        obtain ⟨i, hi, hvi, hti⟩ := let_index a2
        obtain ⟨j, hj, hvj, htj⟩ := let_index b2
        rw [hvi] at f2
        rw [hvj] at g2
        have e1 : ((97 : Int) + i - 97) = i := by omega
        have e2 : ((97 : Int) + j - 97) = j := by omega
        have s1 := HLV1.out.1.cell hi
        have s2 := HLV1.out.2.cell hj
        have s3 := HLV1.out.1.frozen i
        have s4 := HLV1.out.2.frozen j
        have n1 : ¬ b = w.heap.size := by have := HL.out.lt; omega
        have n2 : ¬ c = w.heap.size := by have := HL2.out.lt; omega
        have n3 : ¬ b = w.heap.size + 1 := by have := HL.out.lt; omega
        have n4 : ¬ c = w.heap.size + 1 := by have := HL2.out.lt; omega
        have n5 : ¬ w.heap.size = b := fun h => n1 h.symm
        have n6 : ¬ w.heap.size = c := fun h => n2 h.symm
        obtain ⟨X2, hX2⟩ : ∃ X2, X2 = t.nb :: X := ⟨_, rfl⟩
        obtain ⟨Y2, hY2⟩ : ∃ Y2, Y2 = u.nb :: Y := ⟨_, rfl⟩
        rw [← hX2, ← hY2] at HA
        clear hvi hvj
        replace hX2 := Lib.hid hX2
        replace hY2 := Lib.hid hY2
        go_region
        replace hX2 := hX2.out
        replace hY2 := hY2.out
        obtain ⟨W2, hW2⟩ : ∃ W2, W2 = ((W1.setCell ⟨w.heap.size, i, none⟩ (.int .i64 (d + 1))).setCell ⟨w.heap.size + 1, j, none⟩ (.int .i64 (d + 1))).drew := ⟨_, rfl⟩
        rw [← hW2]
        have hb2 : Below w.heap.size w W2 := by rw [hW2]; exact below_stores HBW1.out _ _ _
        have HV2 : Hid (Levs W2 w.heap.size X2 ∧ Levs W2 (w.heap.size + 1) Y2) := by rw [hW2]; exact (by rw [hX2, hY2]; exact levs_stores HLV1.out hi hj hti htj HD.out HXY.out)
        have x3 : W2.cell? ⟨b, 3, none⟩ = some (.slice o1 t.kids.length cap1) := by rw [hW2]; exact far_stores n1 n3 f3
        have y3 : W2.cell? ⟨c, 3, none⟩ = some (.slice o2 u.kids.length cap2) := by rw [hW2]; exact far_stores n2 n4 g3
        have HB2 := Lib.hid hb2
        have HC2 : Hid (c < W2.heap.size) := Nat.lt_of_lt_of_le HL2.out.lt hb2.size
        have HDX : Hid ((d + 1) = (List.length X2 : Int) ∧ List.length X2 = List.length Y2 ∧ List.length X2 + t.size ≤ 100001) := ⟨by have := HD.out; rw [hX2]; simp; omega, by have := HXY.out; rw [hX2, hY2]; simp; omega, (by have := HX.out; rw [hX2]; simp; omega)⟩
        try clear hX2 hY2
        try clear e1 e2 s1 s2 s3 s4 n1 n2 n3 n4 n5 n6
        clear hW2 hb2 f0 f2 f3 g2 g3 HBW HCS HLV HSZ HBW1 HCS1 HLV1
        go_wp2_with fail
        go_loopw [98] (fun i wr => ∃ k : Nat, k ≤ t.kids.length ∧ i = .int .i64 k ∧ Hid (alps (t.kids.take k) (u.kids.take k) X2 Y2 = true) ∧ Below W2.heap.size W2 wr) (fun i _ => t.kids.length - (intOf i).toNat)
        case atStart => exact ⟨0, Nat.zero_le _, rfl, by simp [alps, Hid], Below.refl _ _⟩
        case round =>
          obtain ⟨k, hk, rfl, hac, hbr⟩ := hrel
          have HBR := Lib.hid hbr
          have HBWR := Lib.hid (below_then HB2.out HB2.out.size hbr)
          by_cases hlt : k < t.kids.length
          · have hlt2 : k < u.kids.length := by have := HKL.out; omega
            obtain ⟨r1, x1, rfl, e1, lx1⟩ := HK1.out k hlt
            obtain ⟨r2, x2, rfl, e2, lx2⟩ := HK2.out k hlt2
            have p1 := (HBWR.out.cell (World.block_lt_of_cell? w _ e1)).trans e1
            have p2 := (HBWR.out.cell (World.block_lt_of_cell? w _ e2)).trans e2
            have p3 := (hbr.cell HC2.out).trans y3
            have HV3 : Hid (Levs wr w.heap.size X2 ∧ Levs wr (w.heap.size + 1) Y2) := ⟨HV2.out.1.below hbr, HV2.out.2.below hbr⟩
            have hU := Try.underlying62
            have hI1 : (Try.prog.info? 62).map (·.size) = some (levL X2).length := by rw [levL_len]; kernel_rfl
            have hI2 : (Try.prog.info? 62).map (·.size) = some (levL Y2).length := by rw [levL_len]; kernel_rfl
            have hlt3 : (k : Int) < (u.kids.length : Int) := by omega
            have hlt4 : (k : Int) < (t.kids.length : Int) := by omega
            have HL1 := Lib.hid (lx1.below HBWR.out)
            have HL2' := Lib.hid (lx2.below HBWR.out)
            have HLT : Hid (c < wr.heap.size ∧ r2 < wr.heap.size) := ⟨Nat.lt_of_lt_of_le HC2.out hbr.size, World.block_lt_of_cell? wr _ p2⟩
            have hsz := kid_le t k hlt
            clear e1 e2 lx1 lx2 hbr
            have HI := Lib.hid (ih t.kids[k] u.kids[k] X2 Y2 (d + 1) (wr.drewN 1) N x1 x2 HDX.out.1 (by omega) (by omega) HDX.out.2.1 (by have := HDX.out.2.2; omega) (kid_wf HW.out k hlt) (kid_wf HW2.out k hlt2) (HL1.out.drewN 1) (HL2'.out.drewN 1))
            have HAT := Lib.hid (alps_take (X := X2) (Y := Y2) k hlt hlt2)
            have HAF := Lib.hid (alps_false (X := X2) (Y := Y2) k hlt hlt2)
            clear hsz
            rcases hr : alp t.kids[k] u.kids[k] X2 Y2 with _ | _
            · have HA2 : Hid (alp t u X Y = false) := by rw [Hid, HA.out]; exact HAF.out hr
              rw [hr] at HI
              clear hr HAT HAF
              go_upto_region 12 with fail
              refine wp_region_still_tail 11 (by kernel_rfl) (by kernel_rfl) ?_
              simp only [List.take_succ_cons, List.take_zero, List.drop_succ_cons, List.drop_zero]
              change wpStill _ _ (wr.drewN 1) (fun a' => wpList _ _ _ _ a' (wr.drewN 1)) _ _
              have T : Hid (Levs (wr.drewN 1) w.heap.size X2 ∧ Levs (wr.drewN 1) (w.heap.size + 1) Y2 ∧ Below wr.heap.size wr (wr.drewN 1)) := ⟨HV3.out.1.drewN 1, HV3.out.2.drewN 1, pw_below_drewN (Below.refl _ _) 1⟩
              replace p2 : (wr.drewN 1).cell? ⟨r2, k, none⟩ = some (.pointer (some ⟨x2, 0, none⟩)) := p2
              replace p3 : (wr.drewN 1).cell? ⟨c, 3, none⟩ = some (.slice (some ⟨r2, 0, none⟩) u.kids.length cap2) := p3
              generalize wr.drewN 1 = W5 at T p2 p3 HI ⊢
              iterate 8 still_step
              refine still_load 62 (.tmp 7) rfl w.heap.size 0 rfl (levL X2) _ T.out.1.range hU rfl hI1 rfl ?_
              simp only [Act.put, List.setIfInBounds_toArray, List.set_cons_zero, List.set_cons_succ]
              refine still_load 62 (.tmp 8) rfl (w.heap.size + 1) 0 rfl (levL Y2) _ T.out.2.1.range hU rfl hI2 rfl ?_
              simp only [Act.put, List.setIfInBounds_toArray, List.set_cons_zero, List.set_cons_succ]
              still_step
              refine wpStill_nil ?_
              clear hU hI1 hI2 p2 p3
              go_wp2_with fail
              refine HI.out.mono ?_
              rintro e w5 ⟨rfl, hb5⟩
              have HB5 : Hid (Below wr.heap.size wr w5) := below_then T.out.2.2 T.out.2.2.size hb5
              clear hb5
              go_wp2_with fail
              go_ret
              exact ⟨by rw [HA2.out]; rfl, below_then HBWR.out HBWR.out.size HB5.out⟩
            · have HA2 : Hid (alps (t.kids.take (k + 1)) (u.kids.take (k + 1)) X2 Y2 = true) := by rw [Hid, HAT.out, hac.out, hr]; rfl
              rw [hr] at HI
              clear hr HAT HAF
              go_upto_region 12 with fail
              refine wp_region_still_tail 11 (by kernel_rfl) (by kernel_rfl) ?_
              simp only [List.take_succ_cons, List.take_zero, List.drop_succ_cons, List.drop_zero]
              change wpStill _ _ (wr.drewN 1) (fun a' => wpList _ _ _ _ a' (wr.drewN 1)) _ _
              have T : Hid (Levs (wr.drewN 1) w.heap.size X2 ∧ Levs (wr.drewN 1) (w.heap.size + 1) Y2 ∧ Below wr.heap.size wr (wr.drewN 1)) := ⟨HV3.out.1.drewN 1, HV3.out.2.drewN 1, pw_below_drewN (Below.refl _ _) 1⟩
              replace p2 : (wr.drewN 1).cell? ⟨r2, k, none⟩ = some (.pointer (some ⟨x2, 0, none⟩)) := p2
              replace p3 : (wr.drewN 1).cell? ⟨c, 3, none⟩ = some (.slice (some ⟨r2, 0, none⟩) u.kids.length cap2) := p3
              generalize wr.drewN 1 = W5 at T p2 p3 HI ⊢
              iterate 8 still_step
              refine still_load 62 (.tmp 7) rfl w.heap.size 0 rfl (levL X2) _ T.out.1.range hU rfl hI1 rfl ?_
              simp only [Act.put, List.setIfInBounds_toArray, List.set_cons_zero, List.set_cons_succ]
              refine still_load 62 (.tmp 8) rfl (w.heap.size + 1) 0 rfl (levL Y2) _ T.out.2.1.range hU rfl hI2 rfl ?_
              simp only [Act.put, List.setIfInBounds_toArray, List.set_cons_zero, List.set_cons_succ]
              still_step
              refine wpStill_nil ?_
              clear hU hI1 hI2 p2 p3
              go_wp2_with fail
              refine HI.out.mono ?_
              rintro e w5 ⟨rfl, hb5⟩
              have HB5 : Hid (Below wr.heap.size wr w5) := below_then T.out.2.2 T.out.2.2.size hb5
              clear hb5
              go_wp2_with fail
              go_roundw
              case rel => exact ⟨k + 1, by omega, by go_num, HA2, below_then HBR.out HBR.out.size HB5.out⟩
              case measure => simp [intOf]; omega
          · have HF : Hid (alp t u X Y = true) := by
              have h := hac.out
              rw [List.take_of_length_le (by omega : t.kids.length ≤ k), List.take_of_length_le (by have := HKL.out; omega : u.kids.length ≤ k)] at h
              rw [Hid, HA.out]; exact h
            go_wp2_with fail
            go_ret
            exact ⟨by rw [HF.out]; rfl, HBWR.out⟩
    · have hna : (vl t.na != 0) = false := by rw [na0]; rfl
      have hbi : bindsB t.kind = true := by simp [bindsB, hkd]
      have HA : Hid (alp t u X Y = alps t.kids u.kids (t.nb :: X) (u.nb :: Y)) := by rw [Hid, hal]
      go_enter Try.func70, Try.ntmps70
      go_upto_region 2 with fail
      obtain ⟨W, hW⟩ : ∃ W, W = (w.alloc (.cells (levA X) 62)).alloc (.cells (levA Y) 62) := ⟨_, rfl⟩
      rw [← hW]
      have hbW : Below w.heap.size w W := by rw [hW]; exact below_boxes _ _ _
      have HLV : Hid (Levs W w.heap.size X ∧ Levs W (w.heap.size + 1) Y) := by rw [hW]; exact levs_boxes w X Y
      have HSZ : Hid (W.heap.size = w.heap.size + 2) := by rw [hW]; simp [Hid]
      have f0 := (hbW.cell hbl).trans c0
      have f1 := (hbW.cell hbl).trans c1
      have f2 := (hbW.cell hbl).trans c2
      have f3 := (hbW.cell hbl).trans c3
      have g0 := (hbW.cell hcl).trans d0
      have g1 := (hbW.cell hcl).trans d1
      have g2 := (hbW.cell hcl).trans d2
      have g3 := (hbW.cell hcl).trans d3
      have HBW := Lib.hid hbW
      have HCS := Lib.hid (show b < W.heap.size ∧ c < W.heap.size from ⟨Nat.lt_of_lt_of_le hbl hbW.size, Nat.lt_of_lt_of_le hcl hbW.size⟩)
      clear hW c0 c1 c2 c3 d0 d1 d2 d3 hbl hcl hbW
      clear hal hkd na0
      go_quiet (fail)
      obtain ⟨W1, hW1⟩ : ∃ W1, W1 = W.drewN nq := ⟨_, rfl⟩
      rw [← hW1]
      have HLV1 : Hid (Levs W1 w.heap.size X ∧ Levs W1 (w.heap.size + 1) Y) := by rw [hW1]; exact ⟨HLV.out.1.drewN _, HLV.out.2.drewN _⟩
      have HBW1 : Hid (Below w.heap.size w W1) := by rw [hW1]; exact pw_below_drewN HBW.out _
      have HCS1 : Hid (b < W1.heap.size ∧ c < W1.heap.size ∧ W1.heap.size = w.heap.size + 2) := by rw [hW1]; exact ⟨HCS.out.1, HCS.out.2, HSZ.out⟩
      replace f0 : W1.cell? ⟨b, 0, none⟩ = some (.int .u8 (vl t.kind)) := by rw [hW1]; exact f0
      replace f2 : W1.cell? ⟨b, 2, none⟩ = some (.int .u8 (vl t.nb)) := by rw [hW1]; exact f2
      replace f3 : W1.cell? ⟨b, 3, none⟩ = some (.slice o1 t.kids.length cap1) := by rw [hW1]; exact f3
      replace g2 : W1.cell? ⟨c, 2, none⟩ = some (.int .u8 (vl u.nb)) := by rw [hW1]; exact g2
      replace g3 : W1.cell? ⟨c, 3, none⟩ = some (.slice o2 u.kids.length cap2) := by rw [hW1]; exact g3
      clear hW1 f1 g0 g1
      have hbc := binds_calls t.kind b W1 f0
      rw [hbi] at hbc
      go_wp2_with fail
      refine hbc.mono ?_
      rintro e w' ⟨rfl, rfl⟩
      clear hbc
      go_upto_region 6 with fail
      obtain ⟨i, hi, hvi, hti⟩ := let_index a2
      obtain ⟨j, hj, hvj, htj⟩ := let_index b2
      rw [hvi] at f2
      rw [hvj] at g2
      have e1 : ((97 : Int) + i - 97) = i := by omega
      have e2 : ((97 : Int) + j - 97) = j := by omega
      have s1 := HLV1.out.1.cell hi
      have s2 := HLV1.out.2.cell hj
      have s3 := HLV1.out.1.frozen i
      have s4 := HLV1.out.2.frozen j
      have n1 : ¬ b = w.heap.size := by have := HL.out.lt; omega
      have n2 : ¬ c = w.heap.size := by have := HL2.out.lt; omega
      have n3 : ¬ b = w.heap.size + 1 := by have := HL.out.lt; omega
      have n4 : ¬ c = w.heap.size + 1 := by have := HL2.out.lt; omega
      have n5 : ¬ w.heap.size = b := fun h => n1 h.symm
      have n6 : ¬ w.heap.size = c := fun h => n2 h.symm
      obtain ⟨X2, hX2⟩ : ∃ X2, X2 = t.nb :: X := ⟨_, rfl⟩
      obtain ⟨Y2, hY2⟩ : ∃ Y2, Y2 = u.nb :: Y := ⟨_, rfl⟩
      rw [← hX2, ← hY2] at HA
      clear hvi hvj
      replace hX2 := Lib.hid hX2
      replace hY2 := Lib.hid hY2
      go_region
      replace hX2 := hX2.out
      replace hY2 := hY2.out
      obtain ⟨W2, hW2⟩ : ∃ W2, W2 = ((W1.setCell ⟨w.heap.size, i, none⟩ (.int .i64 (d + 1))).setCell ⟨w.heap.size + 1, j, none⟩ (.int .i64 (d + 1))).drew := ⟨_, rfl⟩
      rw [← hW2]
      have hb2 : Below w.heap.size w W2 := by rw [hW2]; exact below_stores HBW1.out _ _ _
      have HV2 : Hid (Levs W2 w.heap.size X2 ∧ Levs W2 (w.heap.size + 1) Y2) := by rw [hW2]; exact (by rw [hX2, hY2]; exact levs_stores HLV1.out hi hj hti htj HD.out HXY.out)
      have x3 : W2.cell? ⟨b, 3, none⟩ = some (.slice o1 t.kids.length cap1) := by rw [hW2]; exact far_stores n1 n3 f3
      have y3 : W2.cell? ⟨c, 3, none⟩ = some (.slice o2 u.kids.length cap2) := by rw [hW2]; exact far_stores n2 n4 g3
      have HB2 := Lib.hid hb2
      have HC2 : Hid (c < W2.heap.size) := Nat.lt_of_lt_of_le HL2.out.lt hb2.size
      have HDX : Hid ((d + 1) = (List.length X2 : Int) ∧ List.length X2 = List.length Y2 ∧ List.length X2 + t.size ≤ 100001) := ⟨by have := HD.out; rw [hX2]; simp; omega, by have := HXY.out; rw [hX2, hY2]; simp; omega, (by have := HX.out; rw [hX2]; simp; omega)⟩
      try clear hX2 hY2
      try clear e1 e2 s1 s2 s3 s4 n1 n2 n3 n4 n5 n6
      clear hW2 hb2 f0 f2 f3 g2 g3 HBW HCS HLV HSZ HBW1 HCS1 HLV1
      go_wp2_with fail
      go_loopw [98] (fun i wr => ∃ k : Nat, k ≤ t.kids.length ∧ i = .int .i64 k ∧ Hid (alps (t.kids.take k) (u.kids.take k) X2 Y2 = true) ∧ Below W2.heap.size W2 wr) (fun i _ => t.kids.length - (intOf i).toNat)
      case atStart => exact ⟨0, Nat.zero_le _, rfl, by simp [alps, Hid], Below.refl _ _⟩
      case round =>
        obtain ⟨k, hk, rfl, hac, hbr⟩ := hrel
        have HBR := Lib.hid hbr
        have HBWR := Lib.hid (below_then HB2.out HB2.out.size hbr)
        by_cases hlt : k < t.kids.length
        · have hlt2 : k < u.kids.length := by have := HKL.out; omega
          obtain ⟨r1, x1, rfl, e1, lx1⟩ := HK1.out k hlt
          obtain ⟨r2, x2, rfl, e2, lx2⟩ := HK2.out k hlt2
          have p1 := (HBWR.out.cell (World.block_lt_of_cell? w _ e1)).trans e1
          have p2 := (HBWR.out.cell (World.block_lt_of_cell? w _ e2)).trans e2
          have p3 := (hbr.cell HC2.out).trans y3
          have HV3 : Hid (Levs wr w.heap.size X2 ∧ Levs wr (w.heap.size + 1) Y2) := ⟨HV2.out.1.below hbr, HV2.out.2.below hbr⟩
          have hU := Try.underlying62
          have hI1 : (Try.prog.info? 62).map (·.size) = some (levL X2).length := by rw [levL_len]; kernel_rfl
          have hI2 : (Try.prog.info? 62).map (·.size) = some (levL Y2).length := by rw [levL_len]; kernel_rfl
          have hlt3 : (k : Int) < (u.kids.length : Int) := by omega
          have hlt4 : (k : Int) < (t.kids.length : Int) := by omega
          have HL1 := Lib.hid (lx1.below HBWR.out)
          have HL2' := Lib.hid (lx2.below HBWR.out)
          have HLT : Hid (c < wr.heap.size ∧ r2 < wr.heap.size) := ⟨Nat.lt_of_lt_of_le HC2.out hbr.size, World.block_lt_of_cell? wr _ p2⟩
          have hsz := kid_le t k hlt
          clear e1 e2 lx1 lx2 hbr
          have HI := Lib.hid (ih t.kids[k] u.kids[k] X2 Y2 (d + 1) (wr.drewN 1) N x1 x2 HDX.out.1 (by omega) (by omega) HDX.out.2.1 (by have := HDX.out.2.2; omega) (kid_wf HW.out k hlt) (kid_wf HW2.out k hlt2) (HL1.out.drewN 1) (HL2'.out.drewN 1))
          have HAT := Lib.hid (alps_take (X := X2) (Y := Y2) k hlt hlt2)
          have HAF := Lib.hid (alps_false (X := X2) (Y := Y2) k hlt hlt2)
          clear hsz
          rcases hr : alp t.kids[k] u.kids[k] X2 Y2 with _ | _
          · have HA2 : Hid (alp t u X Y = false) := by rw [Hid, HA.out]; exact HAF.out hr
            rw [hr] at HI
            clear hr HAT HAF
            go_upto_region 12 with fail
            refine wp_region_still_tail 11 (by kernel_rfl) (by kernel_rfl) ?_
            simp only [List.take_succ_cons, List.take_zero, List.drop_succ_cons, List.drop_zero]
            change wpStill _ _ (wr.drewN 1) (fun a' => wpList _ _ _ _ a' (wr.drewN 1)) _ _
            have T : Hid (Levs (wr.drewN 1) w.heap.size X2 ∧ Levs (wr.drewN 1) (w.heap.size + 1) Y2 ∧ Below wr.heap.size wr (wr.drewN 1)) := ⟨HV3.out.1.drewN 1, HV3.out.2.drewN 1, pw_below_drewN (Below.refl _ _) 1⟩
            replace p2 : (wr.drewN 1).cell? ⟨r2, k, none⟩ = some (.pointer (some ⟨x2, 0, none⟩)) := p2
            replace p3 : (wr.drewN 1).cell? ⟨c, 3, none⟩ = some (.slice (some ⟨r2, 0, none⟩) u.kids.length cap2) := p3
            generalize wr.drewN 1 = W5 at T p2 p3 HI ⊢
            iterate 8 still_step
            refine still_load 62 (.tmp 7) rfl w.heap.size 0 rfl (levL X2) _ T.out.1.range hU rfl hI1 rfl ?_
            simp only [Act.put, List.setIfInBounds_toArray, List.set_cons_zero, List.set_cons_succ]
            refine still_load 62 (.tmp 8) rfl (w.heap.size + 1) 0 rfl (levL Y2) _ T.out.2.1.range hU rfl hI2 rfl ?_
            simp only [Act.put, List.setIfInBounds_toArray, List.set_cons_zero, List.set_cons_succ]
            still_step
            refine wpStill_nil ?_
            clear hU hI1 hI2 p2 p3
            go_wp2_with fail
            refine HI.out.mono ?_
            rintro e w5 ⟨rfl, hb5⟩
            have HB5 : Hid (Below wr.heap.size wr w5) := below_then T.out.2.2 T.out.2.2.size hb5
            clear hb5
            go_wp2_with fail
            go_ret
            exact ⟨by rw [HA2.out]; rfl, below_then HBWR.out HBWR.out.size HB5.out⟩
          · have HA2 : Hid (alps (t.kids.take (k + 1)) (u.kids.take (k + 1)) X2 Y2 = true) := by rw [Hid, HAT.out, hac.out, hr]; rfl
            rw [hr] at HI
            clear hr HAT HAF
            go_upto_region 12 with fail
            refine wp_region_still_tail 11 (by kernel_rfl) (by kernel_rfl) ?_
            simp only [List.take_succ_cons, List.take_zero, List.drop_succ_cons, List.drop_zero]
            change wpStill _ _ (wr.drewN 1) (fun a' => wpList _ _ _ _ a' (wr.drewN 1)) _ _
            have T : Hid (Levs (wr.drewN 1) w.heap.size X2 ∧ Levs (wr.drewN 1) (w.heap.size + 1) Y2 ∧ Below wr.heap.size wr (wr.drewN 1)) := ⟨HV3.out.1.drewN 1, HV3.out.2.drewN 1, pw_below_drewN (Below.refl _ _) 1⟩
            replace p2 : (wr.drewN 1).cell? ⟨r2, k, none⟩ = some (.pointer (some ⟨x2, 0, none⟩)) := p2
            replace p3 : (wr.drewN 1).cell? ⟨c, 3, none⟩ = some (.slice (some ⟨r2, 0, none⟩) u.kids.length cap2) := p3
            generalize wr.drewN 1 = W5 at T p2 p3 HI ⊢
            iterate 8 still_step
            refine still_load 62 (.tmp 7) rfl w.heap.size 0 rfl (levL X2) _ T.out.1.range hU rfl hI1 rfl ?_
            simp only [Act.put, List.setIfInBounds_toArray, List.set_cons_zero, List.set_cons_succ]
            refine still_load 62 (.tmp 8) rfl (w.heap.size + 1) 0 rfl (levL Y2) _ T.out.2.1.range hU rfl hI2 rfl ?_
            simp only [Act.put, List.setIfInBounds_toArray, List.set_cons_zero, List.set_cons_succ]
            still_step
            refine wpStill_nil ?_
            clear hU hI1 hI2 p2 p3
            go_wp2_with fail
            refine HI.out.mono ?_
            rintro e w5 ⟨rfl, hb5⟩
            have HB5 : Hid (Below wr.heap.size wr w5) := below_then T.out.2.2 T.out.2.2.size hb5
            clear hb5
            go_wp2_with fail
            go_roundw
            case rel => exact ⟨k + 1, by omega, by go_num, HA2, below_then HBR.out HBR.out.size HB5.out⟩
            case measure => simp [intOf]; omega
        · have HF : Hid (alp t u X Y = true) := by
            have h := hac.out
            rw [List.take_of_length_le (by omega : t.kids.length ≤ k), List.take_of_length_le (by have := HKL.out; omega : u.kids.length ≤ k)] at h
            rw [Hid, HA.out]; exact h
          go_wp2_with fail
          go_ret
          exact ⟨by rw [HF.out]; rfl, HBWR.out⟩
    · have hna : (vl t.na != 0) = false := by rw [na0]; rfl
      have HNB : Hid ((vl t.nb != 0) = false) := by rw [Hid, nb0]; rfl
      have hbi : bindsB t.kind = false := by simp [bindsB, hkd, hkd2]
      have HA : Hid (alp t u X Y = alps t.kids u.kids X Y) := by rw [Hid, hal]
      go_enter Try.func70, Try.ntmps70
      go_upto_region 2 with fail
      obtain ⟨W, hW⟩ : ∃ W, W = (w.alloc (.cells (levA X) 62)).alloc (.cells (levA Y) 62) := ⟨_, rfl⟩
      rw [← hW]
      have hbW : Below w.heap.size w W := by rw [hW]; exact below_boxes _ _ _
      have HLV : Hid (Levs W w.heap.size X ∧ Levs W (w.heap.size + 1) Y) := by rw [hW]; exact levs_boxes w X Y
      have HSZ : Hid (W.heap.size = w.heap.size + 2) := by rw [hW]; simp [Hid]
      have f0 := (hbW.cell hbl).trans c0
      have f1 := (hbW.cell hbl).trans c1
      have f2 := (hbW.cell hbl).trans c2
      have f3 := (hbW.cell hbl).trans c3
      have g0 := (hbW.cell hcl).trans d0
      have g1 := (hbW.cell hcl).trans d1
      have g2 := (hbW.cell hcl).trans d2
      have g3 := (hbW.cell hcl).trans d3
      have HBW := Lib.hid hbW
      have HCS := Lib.hid (show b < W.heap.size ∧ c < W.heap.size from ⟨Nat.lt_of_lt_of_le hbl hbW.size, Nat.lt_of_lt_of_le hcl hbW.size⟩)
      clear hW c0 c1 c2 c3 d0 d1 d2 d3 hbl hcl hbW
      clear hal hkd hkd2 na0 nb0
      go_quiet (fail)
      obtain ⟨W1, hW1⟩ : ∃ W1, W1 = W.drewN nq := ⟨_, rfl⟩
      rw [← hW1]
      have HLV1 : Hid (Levs W1 w.heap.size X ∧ Levs W1 (w.heap.size + 1) Y) := by rw [hW1]; exact ⟨HLV.out.1.drewN _, HLV.out.2.drewN _⟩
      have HBW1 : Hid (Below w.heap.size w W1) := by rw [hW1]; exact pw_below_drewN HBW.out _
      have HCS1 : Hid (b < W1.heap.size ∧ c < W1.heap.size ∧ W1.heap.size = w.heap.size + 2) := by rw [hW1]; exact ⟨HCS.out.1, HCS.out.2, HSZ.out⟩
      replace f0 : W1.cell? ⟨b, 0, none⟩ = some (.int .u8 (vl t.kind)) := by rw [hW1]; exact f0
      replace f2 : W1.cell? ⟨b, 2, none⟩ = some (.int .u8 (vl t.nb)) := by rw [hW1]; exact f2
      replace f3 : W1.cell? ⟨b, 3, none⟩ = some (.slice o1 t.kids.length cap1) := by rw [hW1]; exact f3
      replace g2 : W1.cell? ⟨c, 2, none⟩ = some (.int .u8 (vl u.nb)) := by rw [hW1]; exact g2
      replace g3 : W1.cell? ⟨c, 3, none⟩ = some (.slice o2 u.kids.length cap2) := by rw [hW1]; exact g3
      clear hW1 f1 g0 g1
      have hbc := binds_calls t.kind b W1 f0
      rw [hbi] at hbc
      go_wp2_with fail
      refine hbc.mono ?_
      rintro e w' ⟨rfl, rfl⟩
      clear hbc
      have hnb := HNB.out
      go_wp2_with fail
      go_quiet (fail)
      obtain ⟨W2, hW2⟩ : ∃ W2, W2 = W1.drewN nq := ⟨_, rfl⟩
      rw [← hW2]
      have hb2 : Below w.heap.size w W2 := by rw [hW2]; exact pw_below_drewN HBW1.out _
      have HV2 : Hid (Levs W2 w.heap.size X ∧ Levs W2 (w.heap.size + 1) Y) := by rw [hW2]; exact ⟨HLV1.out.1.drewN _, HLV1.out.2.drewN _⟩
      have x3 : W2.cell? ⟨b, 3, none⟩ = some (.slice o1 t.kids.length cap1) := by rw [hW2]; exact id f3
      have y3 : W2.cell? ⟨c, 3, none⟩ = some (.slice o2 u.kids.length cap2) := by rw [hW2]; exact id g3
      have HB2 := Lib.hid hb2
      have HC2 : Hid (c < W2.heap.size) := Nat.lt_of_lt_of_le HL2.out.lt hb2.size
      have HDX : Hid (d = (List.length X : Int) ∧ List.length X = List.length Y ∧ List.length X + t.size ≤ 100001) := ⟨HD.out, HXY.out, (by have := HX.out; omega)⟩
      try clear hX2 hY2
      try clear e1 e2 s1 s2 s3 s4 n1 n2 n3 n4 n5 n6
      clear hW2 hb2 f0 f2 f3 g2 g3 HBW HCS HLV HSZ HBW1 HCS1 HLV1
      go_wp2_with fail
      go_loopw [98] (fun i wr => ∃ k : Nat, k ≤ t.kids.length ∧ i = .int .i64 k ∧ Hid (alps (t.kids.take k) (u.kids.take k) X Y = true) ∧ Below W2.heap.size W2 wr) (fun i _ => t.kids.length - (intOf i).toNat)
      case atStart => exact ⟨0, Nat.zero_le _, rfl, by simp [alps, Hid], Below.refl _ _⟩
      case round =>
        obtain ⟨k, hk, rfl, hac, hbr⟩ := hrel
        have HBR := Lib.hid hbr
        have HBWR := Lib.hid (below_then HB2.out HB2.out.size hbr)
        by_cases hlt : k < t.kids.length
        · have hlt2 : k < u.kids.length := by have := HKL.out; omega
          obtain ⟨r1, x1, rfl, e1, lx1⟩ := HK1.out k hlt
          obtain ⟨r2, x2, rfl, e2, lx2⟩ := HK2.out k hlt2
          have p1 := (HBWR.out.cell (World.block_lt_of_cell? w _ e1)).trans e1
          have p2 := (HBWR.out.cell (World.block_lt_of_cell? w _ e2)).trans e2
          have p3 := (hbr.cell HC2.out).trans y3
          have HV3 : Hid (Levs wr w.heap.size X ∧ Levs wr (w.heap.size + 1) Y) := ⟨HV2.out.1.below hbr, HV2.out.2.below hbr⟩
          have hU := Try.underlying62
          have hI1 : (Try.prog.info? 62).map (·.size) = some (levL X).length := by rw [levL_len]; kernel_rfl
          have hI2 : (Try.prog.info? 62).map (·.size) = some (levL Y).length := by rw [levL_len]; kernel_rfl
          have hlt3 : (k : Int) < (u.kids.length : Int) := by omega
          have hlt4 : (k : Int) < (t.kids.length : Int) := by omega
          have HL1 := Lib.hid (lx1.below HBWR.out)
          have HL2' := Lib.hid (lx2.below HBWR.out)
          have HLT : Hid (c < wr.heap.size ∧ r2 < wr.heap.size) := ⟨Nat.lt_of_lt_of_le HC2.out hbr.size, World.block_lt_of_cell? wr _ p2⟩
          have hsz := kid_le t k hlt
          clear e1 e2 lx1 lx2 hbr
          have HI := Lib.hid (ih t.kids[k] u.kids[k] X Y d (wr.drewN 1) N x1 x2 HDX.out.1 (by omega) (by omega) HDX.out.2.1 (by have := HDX.out.2.2; omega) (kid_wf HW.out k hlt) (kid_wf HW2.out k hlt2) (HL1.out.drewN 1) (HL2'.out.drewN 1))
          have HAT := Lib.hid (alps_take (X := X) (Y := Y) k hlt hlt2)
          have HAF := Lib.hid (alps_false (X := X) (Y := Y) k hlt hlt2)
          clear hsz
          rcases hr : alp t.kids[k] u.kids[k] X Y with _ | _
          · have HA2 : Hid (alp t u X Y = false) := by rw [Hid, HA.out]; exact HAF.out hr
            rw [hr] at HI
            clear hr HAT HAF
            go_upto_region 12 with fail
            refine wp_region_still_tail 11 (by kernel_rfl) (by kernel_rfl) ?_
            simp only [List.take_succ_cons, List.take_zero, List.drop_succ_cons, List.drop_zero]
            change wpStill _ _ (wr.drewN 1) (fun a' => wpList _ _ _ _ a' (wr.drewN 1)) _ _
            have T : Hid (Levs (wr.drewN 1) w.heap.size X ∧ Levs (wr.drewN 1) (w.heap.size + 1) Y ∧ Below wr.heap.size wr (wr.drewN 1)) := ⟨HV3.out.1.drewN 1, HV3.out.2.drewN 1, pw_below_drewN (Below.refl _ _) 1⟩
            replace p2 : (wr.drewN 1).cell? ⟨r2, k, none⟩ = some (.pointer (some ⟨x2, 0, none⟩)) := p2
            replace p3 : (wr.drewN 1).cell? ⟨c, 3, none⟩ = some (.slice (some ⟨r2, 0, none⟩) u.kids.length cap2) := p3
            generalize wr.drewN 1 = W5 at T p2 p3 HI ⊢
            iterate 8 still_step
            refine still_load 62 (.tmp 7) rfl w.heap.size 0 rfl (levL X) _ T.out.1.range hU rfl hI1 rfl ?_
            simp only [Act.put, List.setIfInBounds_toArray, List.set_cons_zero, List.set_cons_succ]
            refine still_load 62 (.tmp 8) rfl (w.heap.size + 1) 0 rfl (levL Y) _ T.out.2.1.range hU rfl hI2 rfl ?_
            simp only [Act.put, List.setIfInBounds_toArray, List.set_cons_zero, List.set_cons_succ]
            still_step
            refine wpStill_nil ?_
            clear hU hI1 hI2 p2 p3
            go_wp2_with fail
            refine HI.out.mono ?_
            rintro e w5 ⟨rfl, hb5⟩
            have HB5 : Hid (Below wr.heap.size wr w5) := below_then T.out.2.2 T.out.2.2.size hb5
            clear hb5
            go_wp2_with fail
            go_ret
            exact ⟨by rw [HA2.out]; rfl, below_then HBWR.out HBWR.out.size HB5.out⟩
          · have HA2 : Hid (alps (t.kids.take (k + 1)) (u.kids.take (k + 1)) X Y = true) := by rw [Hid, HAT.out, hac.out, hr]; rfl
            rw [hr] at HI
            clear hr HAT HAF
            go_upto_region 12 with fail
            refine wp_region_still_tail 11 (by kernel_rfl) (by kernel_rfl) ?_
            simp only [List.take_succ_cons, List.take_zero, List.drop_succ_cons, List.drop_zero]
            change wpStill _ _ (wr.drewN 1) (fun a' => wpList _ _ _ _ a' (wr.drewN 1)) _ _
            have T : Hid (Levs (wr.drewN 1) w.heap.size X ∧ Levs (wr.drewN 1) (w.heap.size + 1) Y ∧ Below wr.heap.size wr (wr.drewN 1)) := ⟨HV3.out.1.drewN 1, HV3.out.2.drewN 1, pw_below_drewN (Below.refl _ _) 1⟩
            replace p2 : (wr.drewN 1).cell? ⟨r2, k, none⟩ = some (.pointer (some ⟨x2, 0, none⟩)) := p2
            replace p3 : (wr.drewN 1).cell? ⟨c, 3, none⟩ = some (.slice (some ⟨r2, 0, none⟩) u.kids.length cap2) := p3
            generalize wr.drewN 1 = W5 at T p2 p3 HI ⊢
            iterate 8 still_step
            refine still_load 62 (.tmp 7) rfl w.heap.size 0 rfl (levL X) _ T.out.1.range hU rfl hI1 rfl ?_
            simp only [Act.put, List.setIfInBounds_toArray, List.set_cons_zero, List.set_cons_succ]
            refine still_load 62 (.tmp 8) rfl (w.heap.size + 1) 0 rfl (levL Y) _ T.out.2.1.range hU rfl hI2 rfl ?_
            simp only [Act.put, List.setIfInBounds_toArray, List.set_cons_zero, List.set_cons_succ]
            still_step
            refine wpStill_nil ?_
            clear hU hI1 hI2 p2 p3
            go_wp2_with fail
            refine HI.out.mono ?_
            rintro e w5 ⟨rfl, hb5⟩
            have HB5 : Hid (Below wr.heap.size wr w5) := below_then T.out.2.2 T.out.2.2.size hb5
            clear hb5
            go_wp2_with fail
            go_roundw
            case rel => exact ⟨k + 1, by omega, by go_num, HA2, below_then HBR.out HBR.out.size HB5.out⟩
            case measure => simp [intOf]; omega
        · have HF : Hid (alp t u X Y = true) := by
            have h := hac.out
            rw [List.take_of_length_le (by omega : t.kids.length ≤ k), List.take_of_length_le (by have := HKL.out; omega : u.kids.length ≤ k)] at h
            rw [Hid, HA.out]; exact h
          go_wp2_with fail
          go_ret
          exact ⟨by rw [HF.out]; rfl, HBWR.out⟩
end Go.Proofs.Ytjinjanjjecmiaa
