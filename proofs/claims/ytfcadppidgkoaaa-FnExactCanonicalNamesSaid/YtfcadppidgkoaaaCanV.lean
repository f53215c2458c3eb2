/- The walk of canonical, sign by sign. -/
import Derived.Test.YtfcadppidgkoaaaCanW
import Derived.Test.YtfcadppidgkoaaaCods
import Derived.StillTailTactics
namespace Go.Proofs.Ytfcadppidgkoaaa
open Go.RowKit Go.Proofs.YtfcadppidgkoaaaW.PrintWords Go.Proofs.YtfcadppidgkoaaaW.PrintLast Go.Proofs.YtfcadppidgkoaaaW.PrintMore
set_option linter.unusedVariables false
set_option linter.unusedSimpArgs false

theorem name_worldc {P : Program} {c : Code} {Q : Exit → Act → World → Prop} {a : Act} {w : World} (h : ∀ W, W = w → c.wp P Q a W) : c.wp P Q a w := h w rfl
theorem Try.infoBe : (Try.prog.info? 115).map (·.size) = some 26 := by kernel_rfl
set_option maxHeartbeats 1000000 in
set_option maxRecDepth 100000 in
theorem can_plain (n : Nat) (ih : CanUpto n) (t : Tm) (e : UInt8 → UInt8) (p : UInt8 → Bool) (w : World) (P : Nat → Prop) (T b : Nat) (hs : t.size ≤ n + 1) (hw : Wf isLet t) (he : ∀ c, isLet c = true → isLet (e c) = true) (hl : LiesP w P t b) (hPT : ¬ P T) (htk : TkAt w T p)
    (k1 : t.kind ≠ 63) (k2 : t.kind ≠ 35) (ha : t.na = 0) (hb : t.nb = 0) (res : Option (Tm × (UInt8 → Bool))) (hres : res = (canL t.kids e p).map fun r => (mkT t.kind 0 0 r.1, r.2)) :
    Calls Try.prog 124 #[.pointer (some ⟨b, 0, none⟩), .agg (beA e), .pointer (some ⟨T, 0, none⟩)] w (CanPost w T res) := by
  obtain ⟨o, cap, c0, c1, c2, c3, hk⟩ := hl.at
  have HK := Lib.hid hk
  have HPT : Hid (¬ P T ∧ T < w.heap.size) := ⟨hPT, htk.lt⟩
  have hPb : P b := by cases t <;> exact hl.1
  have HBT : Hid (b < w.heap.size ∧ b ≠ T) := ⟨hl.lt, fun e => hPT (e ▸ hPb)⟩
  have hkl : t.kids.length ≤ 2 := by cases t <;> simp [Tm.kids]
  have HSZ : Hid (∀ u, u ∈ t.kids → u.size ≤ n ∧ Wf isLet u) := fun u hu => by
    obtain ⟨i, hi, rfl⟩ := List.getElem_of_mem hu
    exact ⟨by have := kid_le t i hi; omega, kid_wf hw i hi⟩
  have hz1 := beA_size e
  have C0 := Lib.hid c0
  have C1 := Lib.hid c1
  have C2 := Lib.hid c2
  have C3 := Lib.hid c3
  have HTK := Lib.hid htk
  have HRES := Lib.hid hres
  have HEL := Lib.hid he
  have na0 : (vl t.na != 0) = false := by rw [ha]; rfl
  have nb0 : (vl t.nb != 0) = false := by rw [hb]; rfl
  have hbi : bindsB t.kind = false := by simp [bindsB, k1, k2]
  have hbc := fun W h => binds_calls t.kind b W h
  rw [hbi] at hbc
  have HBC := Lib.hid hbc
  clear hs hw he hl hPT htk k1 k2 ha hb hres c0 c1 c2 c3 hk hPb hbi hbc
  go_enter Try.func124, Try.ntmps124
  go_upto_region 1 with fail
  have hb1 := below_alloc (Below.refl w.heap.size w) (.cells (beA e) 115)
  have c0' := (hb1.cell HBT.out.1).trans C0.out
  clear hb1
  go_upto_region 2 with fail
  refine name_worldc ?_
  intro W1 hW1
  have HM : Hid (MidC w W1 T t.kind 0 0 (.slice none 0 0) e p) := by rw [hW1]; exact MidC.start HPT.out.2 HTK.out t.kind 0 0 (.slice none 0 0) e _ _
  clear hW1 c0'
  have d0 := (HM.out.hb.cell (a := ⟨b, 0, none⟩) HBT.out.1 HBT.out.2).trans C0.out
  have d1 := (HM.out.hb.cell (a := ⟨b, 1, none⟩) HBT.out.1 HBT.out.2).trans C1.out
  have d2 := (HM.out.hb.cell (a := ⟨b, 2, none⟩) HBT.out.1 HBT.out.2).trans C2.out
  have d3 := (HM.out.hb.cell (a := ⟨b, 3, none⟩) HBT.out.1 HBT.out.2).trans C3.out
  obtain ⟨q0, q1, q2, q3, qf, ql⟩ := HM.out.cells
  go_wp2_with fail
  refine (HBC.out _ d0).mono ?_
  rintro e9 w' ⟨rfl, rfl⟩
  go_upto_region 12 with fail
  go_wp2_with fail
  go_loopw [81] (fun i wr => ∃ j : Nat, j ≤ t.kids.length ∧ i = .int .i64 j ∧ ∃ us v q, us.length = j ∧ Hid (canL (t.kids.take j) e p = some (us, q)) ∧ Hid (MidC w wr T t.kind 0 0 v e q) ∧ Hid (KidsAt wr (w.heap.size + 2) (fun i => w.heap.size + 2 ≤ i) v us)) (fun i _ => t.kids.length - (intOf i).toNat)
  case atStart => exact ⟨0, Nat.zero_le _, rfl, [], _, p, rfl, rfl, HM.out, KidsAt.nil _ _ _⟩
  case round =>
    obtain ⟨j, hj, rfl, us, v, q, husl, hcan, hmid, hkids⟩ := hrel
    by_cases hlt : j < t.kids.length
    · obtain ⟨r, x, hro, hpr, hkid, hlx⟩ := HK.out j hlt
      cases hro
      have hrT : r ≠ T := fun e => HPT.out.1 (e ▸ hpr)
      have e0 := (hkid.keep (hmid.out.hb.block r hkid.lt hrT)).cell
      have HLX : Hid (LiesP wr P t.kids[j] x) := LiesP.keep (w' := wr) (fun i hi hi2 => hmid.out.hb.block i hi2 fun e => HPT.out.1 (e ▸ hi)) hlx
      have HST : Hid (canL (t.kids.take (j + 1)) e p = (canI t.kids[j] e q).map fun r => (us ++ [r.1], r.2)) := canL_step hlt hcan.out
      have HS2 : Hid (t.kids[j].size ≤ n ∧ Wf isLet t.kids[j]) := HSZ.out _ (List.getElem_mem hlt)
      have hrec := ih t.kids[j] e q wr P T x HS2.out.1 HS2.out.2 HEL.out HLX.out HPT.out.1 hmid.out.tk
      have hU := Try.underlying115
      have hI : (Try.prog.info? 115).map (·.size) = some (beL e).length := by rw [beL_len]; exact Try.infoBe
      have hlt4 : (j : Int) < (t.kids.length : Int) := by omega
      clear hpr hkid hlx hrT
      go_wp2_with (first | ((with_reducible refine gate_dst (N := 87) rfl ?_); refine wpList_load_mid (by rfl) 115 (.tmp 4) (by rfl) w.heap.size 0 (by rfl) (beL e) _ hmid.out.env.range hU rfl hI ?_))
      refine hrec.mono ?_
      rintro e9 w2 ⟨hb2, hpost⟩
      clear hU hI hrec
      rcases hr : canI t.kids[j] e q with _ | ⟨u, q2⟩
      · rw [hr] at hpost
        obtain ⟨z, rfl⟩ := hpost
        have HN : Hid (res = none) := by
          have h1 : canL (t.kids.take (j + 1)) e p = none := by rw [HST.out, hr]; rfl
          rw [Hid, HRES.out, canL_none h1]; rfl
        have HB := Lib.hid (hmid.out.hb.trans hb2)
        clear hr hb2 e0
        go_wp2_with fail
        go_ret2
        rw [HN.out]
        exact ⟨HB.out, _, rfl⟩
      · rw [hr] at hpost
        obtain ⟨x2, rfl, hlu, htk2⟩ := hpost
        simp only at hlu htk2
        have HR2 : Hid (canL (t.kids.take (j + 1)) e p = some (us ++ [u], q2)) := by rw [Hid, HST.out, hr]; rfl
        have hm2 := hmid.out.step HPT.out.2 hb2 htk2
        have hb3 : Below w2.heap.size w2 (w2.alloc (.cells #[.pointer (some ⟨x2, 0, none⟩)] 50)) := below_alloc (Below.refl _ _) _
        have hm3 := hm2.below HPT.out.2 hb3
        have hTl := HPT.out.2
        have hk3 : KidsAt (w2.alloc (.cells #[.pointer (some ⟨x2, 0, none⟩)] 50)) (w.heap.size + 2) (fun i => w.heap.size + 2 ≤ i) v us := (hkids.out.keep hb2.size fun i hi hi2 => hb2.block i hi2 (by omega)).keep hb3.size fun i _ hi => hb3.block i hi
        have hs2 := hb2.size
        have hs3 := hb3.size
        have hwl := hmid.out.cells.2.2.2.2.2
        have hu3 : LiesP (w2.alloc (.cells #[.pointer (some ⟨x2, 0, none⟩)] 50)) (fun i => w.heap.size + 2 ≤ i ∧ i < (w2.alloc (.cells #[.pointer (some ⟨x2, 0, none⟩)] 50)).heap.size ∧ ∀ k, v.ownBlock = some k → i ≠ k) u x2 := by
          refine LiesP.mono (fun i hi hi2 => ⟨by omega, hi2, fun k hk e => by have := (hkids.out.own hk).2; omega⟩) (LiesP.keep (fun i _ hi => hb3.block i hi) (LiesP.of hlu))
        obtain ⟨v4, w4, e1, e2, e3⟩ := run_append_kid (ty := 58) hk3 (by omega) (by omega) (heap_alloc_new w2 _) hu3
        obtain ⟨o4, l4, cap4, rfl⟩ := e2.slice
        have hgb : Below (w.heap.size + 2) (w2.alloc (.cells #[.pointer (some ⟨x2, 0, none⟩)] 50)) w4 := ⟨e3.os, e3.tape, e3.output, e3.size, fun i hi => e3.block i (by omega) fun e => by have := (hkids.out.own e.symm).1; omega⟩
        have hm4 := hm3.far HPT.out.2 hgb
        have HM5 := Lib.hid (hm4.set3 HPT.out.2 (.slice o4 l4 cap4))
        have hk5 := Lib.hid (e2.keep (w' := w4.setCell ⟨w.heap.size + 1, 3, none⟩ (.slice o4 l4 cap4)) (by simp [World.setCell]) fun i hi _ => Below.heap_setCell _ _ _ _ (by simp; omega))
        have HE1 := Lib.hid e1
        obtain ⟨q0, q1, q2', q3, qf, ql⟩ := hm2.cells
        obtain ⟨p0, p1, p2, p3, pf, pl⟩ := hm4.cells
        clear hr hb2 hb3 hm2 hm3 hk3 hs2 hs3 hwl hu3 hlu e1 e2 e3 hgb hm4 e0 htk2 hTl
        go_wp2_with (at_builtin; refine Lib.wpList_append_run _ rfl (.tmp 98) (.tmp 100) _ _ rfl _ _ rfl rfl _ w4 HE1.out ?_)
        go_roundw
        case rel => exact ⟨j + 1, by omega, by go_num, us ++ [u], _, _, by simp [husl], HR2.out, HM5.out, hk5.out⟩
        case measure => simp [intOf]; omega
    · have HFI : Hid (res = some (mkT t.kind 0 0 us, q) ∧ Lies wr w.heap.size (mkT t.kind 0 0 us) (w.heap.size + 1)) := by
        have hke : j = t.kids.length := by omega
        have h1 := hcan.out
        rw [hke, List.take_length] at h1
        exact ⟨by rw [HRES.out, h1]; rfl, hmid.out.fin hkids.out (by omega)⟩
      go_wp2_with fail
      go_ret2
      rw [HFI.out.1]
      exact ⟨hmid.out.hb, _, rfl, HFI.out.2, hmid.out.tk⟩

attribute [local irreducible] wpStill
theorem eu_at (e : UInt8 → UInt8) (x y : UInt8) : eu e x y x = y := by unfold eu; rw [if_pos rfl]
theorem eu_let {e : UInt8 → UInt8} {x y : UInt8} (he : ∀ c, isLet c = true → isLet (e c) = true) (hy : isLet y = true) : ∀ c, isLet c = true → isLet (eu e x y c) = true := fun c hc => by
  unfold eu
  split
  · exact hy
  · exact he c hc
set_option maxHeartbeats 1000000 in
set_option maxRecDepth 100000 in
theorem can_pair (n : Nat) (ih : CanUpto n) (t : Tm) (e : UInt8 → UInt8) (p : UInt8 → Bool) (w : World) (P : Nat → Prop) (T b : Nat) (hs : t.size ≤ n + 1) (hw : Wf isLet t) (he : ∀ c, isLet c = true → isLet (e c) = true) (hl : LiesP w P t b) (hPT : ¬ P T) (htk : TkAt w T p)
    (k1 : t.kind = 33 ∨ t.kind = 61) (ha : isLet t.na = true) (hb : isLet t.nb = true) (res : Option (Tm × (UInt8 → Bool))) (hres : res = (canL t.kids e p).map fun r => (mkT t.kind (e t.na) (e t.nb) r.1, r.2)) :
    Calls Try.prog 124 #[.pointer (some ⟨b, 0, none⟩), .agg (beA e), .pointer (some ⟨T, 0, none⟩)] w (CanPost w T res) := by
  obtain ⟨o, cap, c0, c1, c2, c3, hk⟩ := hl.at
  have HK := Lib.hid hk
  have HPT : Hid (¬ P T ∧ T < w.heap.size) := ⟨hPT, htk.lt⟩
  have hPb : P b := by cases t <;> exact hl.1
  have HBT : Hid (b < w.heap.size ∧ b ≠ T) := ⟨hl.lt, fun e => hPT (e ▸ hPb)⟩
  have hkl : t.kids.length ≤ 2 := by cases t <;> simp [Tm.kids]
  have HSZ : Hid (∀ u, u ∈ t.kids → u.size ≤ n ∧ Wf isLet u) := fun u hu => by
    obtain ⟨i, hi, rfl⟩ := List.getElem_of_mem hu
    exact ⟨by have := kid_le t i hi; omega, kid_wf hw i hi⟩
  have hz1 := beA_size e
  have C0 := Lib.hid c0
  have C1 := Lib.hid c1
  have C2 := Lib.hid c2
  have C3 := Lib.hid c3
  have HTK := Lib.hid htk
  have HRES := Lib.hid hres
  have HEL := Lib.hid he
  have hbi : bindsB t.kind = false := by rcases k1 with h | h <;> rw [h] <;> rfl
  have hbc := fun W h => binds_calls t.kind b W h
  rw [hbi] at hbc
  have HBC := Lib.hid hbc
  obtain ⟨ia, hia, hva, ea⟩ := let_index ha
  have EA := Lib.hid ea
  obtain ⟨ib, hib, hvb, eb⟩ := let_index hb
  have EB := Lib.hid eb
  have na0 : ((97 : Int) + ia != 0) = true := by rw [bne_iff_ne]; omega
  have nb0 : ((97 : Int) + ib != 0) = true := by rw [bne_iff_ne]; omega
  have x1 : ((97 : Int) + ia - 97) = ia := by omega
  have x2 : ((97 : Int) + ib - 97) = ib := by omega
  clear hs hw he hl hPT htk k1 ha hb hres c0 c1 c2 c3 hk hPb hbi hbc ea eb
  go_enter Try.func124, Try.ntmps124
  go_upto_region 1 with fail
  have hb1 := below_alloc (Below.refl w.heap.size w) (.cells (beA e) 115)
  have c0' := (hb1.cell HBT.out.1).trans C0.out
  clear hb1
  go_upto_region 2 with fail
  refine name_worldc ?_
  intro W1 hW1
  have HM : Hid (MidC w W1 T t.kind 0 0 (.slice none 0 0) e p) := by rw [hW1]; exact MidC.start HPT.out.2 HTK.out t.kind 0 0 (.slice none 0 0) e _ _
  clear hW1 c0'
  have d0 := (HM.out.hb.cell (a := ⟨b, 0, none⟩) HBT.out.1 HBT.out.2).trans C0.out
  have d1 := (HM.out.hb.cell (a := ⟨b, 1, none⟩) HBT.out.1 HBT.out.2).trans C1.out
  have d2 := (HM.out.hb.cell (a := ⟨b, 2, none⟩) HBT.out.1 HBT.out.2).trans C2.out
  have d3 := (HM.out.hb.cell (a := ⟨b, 3, none⟩) HBT.out.1 HBT.out.2).trans C3.out
  obtain ⟨q0, q1, q2, q3, qf, ql⟩ := HM.out.cells
  rw [hva] at d1
  have g1 := HM.out.env.cell hia
  rw [← EA.out] at g1
  go_upto_region 4 with fail
  clear g1
  refine name_worldc ?_
  intro W2 hW2
  have HM2 : Hid (MidC w W2 T t.kind (e t.na) 0 (.slice none 0 0) e p) := by rw [hW2]; exact (HM.out.set1 HPT.out.2 _)
  clear hW2 HM d0 d1 d2 d3 q0 q1 q2 q3 qf ql
  have HM := HM2
  clear HM2
  have d0 := (HM.out.hb.cell (a := ⟨b, 0, none⟩) HBT.out.1 HBT.out.2).trans C0.out
  have d1 := (HM.out.hb.cell (a := ⟨b, 1, none⟩) HBT.out.1 HBT.out.2).trans C1.out
  have d2 := (HM.out.hb.cell (a := ⟨b, 2, none⟩) HBT.out.1 HBT.out.2).trans C2.out
  have d3 := (HM.out.hb.cell (a := ⟨b, 3, none⟩) HBT.out.1 HBT.out.2).trans C3.out
  obtain ⟨q0, q1, q2, q3, qf, ql⟩ := HM.out.cells
  go_wp2_with fail
  refine (HBC.out _ d0).mono ?_
  rintro e9 w' ⟨rfl, rfl⟩
  rw [hvb] at d2
  have g2 := HM.out.env.cell hib
  rw [← EB.out] at g2
  go_upto_region 12 with fail
  clear g2
  refine name_worldc ?_
  intro W2 hW2
  have HM2 : Hid (MidC w W2 T t.kind (e t.na) (e t.nb) (.slice none 0 0) e p) := by rw [hW2]; exact (HM.out.set2 HPT.out.2 _)
  clear hW2 HM d0 d1 d2 d3 q0 q1 q2 q3 qf ql
  have HM := HM2
  clear HM2
  have d0 := (HM.out.hb.cell (a := ⟨b, 0, none⟩) HBT.out.1 HBT.out.2).trans C0.out
  have d1 := (HM.out.hb.cell (a := ⟨b, 1, none⟩) HBT.out.1 HBT.out.2).trans C1.out
  have d2 := (HM.out.hb.cell (a := ⟨b, 2, none⟩) HBT.out.1 HBT.out.2).trans C2.out
  have d3 := (HM.out.hb.cell (a := ⟨b, 3, none⟩) HBT.out.1 HBT.out.2).trans C3.out
  obtain ⟨q0, q1, q2, q3, qf, ql⟩ := HM.out.cells
  go_wp2_with fail
  go_loopw [81] (fun i wr => ∃ j : Nat, j ≤ t.kids.length ∧ i = .int .i64 j ∧ ∃ us v q, us.length = j ∧ Hid (canL (t.kids.take j) e p = some (us, q)) ∧ Hid (MidC w wr T t.kind (e t.na) (e t.nb) v e q) ∧ Hid (KidsAt wr (w.heap.size + 2) (fun i => w.heap.size + 2 ≤ i) v us)) (fun i _ => t.kids.length - (intOf i).toNat)
  case atStart => exact ⟨0, Nat.zero_le _, rfl, [], _, p, rfl, rfl, HM.out, KidsAt.nil _ _ _⟩
  case round =>
    obtain ⟨j, hj, rfl, us, v, q, husl, hcan, hmid, hkids⟩ := hrel
    by_cases hlt : j < t.kids.length
    · obtain ⟨r, x, hro, hpr, hkid, hlx⟩ := HK.out j hlt
      cases hro
      have hrT : r ≠ T := fun e => HPT.out.1 (e ▸ hpr)
      have e0 := (hkid.keep (hmid.out.hb.block r hkid.lt hrT)).cell
      have HLX : Hid (LiesP wr P t.kids[j] x) := LiesP.keep (w' := wr) (fun i hi hi2 => hmid.out.hb.block i hi2 fun e => HPT.out.1 (e ▸ hi)) hlx
      have HST : Hid (canL (t.kids.take (j + 1)) e p = (canI t.kids[j] e q).map fun r => (us ++ [r.1], r.2)) := canL_step hlt hcan.out
      have HS2 : Hid (t.kids[j].size ≤ n ∧ Wf isLet t.kids[j]) := HSZ.out _ (List.getElem_mem hlt)
      have hrec := ih t.kids[j] e q wr P T x HS2.out.1 HS2.out.2 HEL.out HLX.out HPT.out.1 hmid.out.tk
      have hU := Try.underlying115
      have hI : (Try.prog.info? 115).map (·.size) = some (beL e).length := by rw [beL_len]; exact Try.infoBe
      have hlt4 : (j : Int) < (t.kids.length : Int) := by omega
      clear hpr hkid hlx hrT
      go_wp2_with (first | ((with_reducible refine gate_dst (N := 87) rfl ?_); refine wpList_load_mid (by rfl) 115 (.tmp 4) (by rfl) w.heap.size 0 (by rfl) (beL e) _ hmid.out.env.range hU rfl hI ?_))
      refine hrec.mono ?_
      rintro e9 w2 ⟨hb2, hpost⟩
      clear hU hI hrec
      rcases hr : canI t.kids[j] e q with _ | ⟨u, q2⟩
      · rw [hr] at hpost
        obtain ⟨z, rfl⟩ := hpost
        have HN : Hid (res = none) := by
          have h1 : canL (t.kids.take (j + 1)) e p = none := by rw [HST.out, hr]; rfl
          rw [Hid, HRES.out, canL_none h1]; rfl
        have HB := Lib.hid (hmid.out.hb.trans hb2)
        clear hr hb2 e0
        go_wp2_with fail
        go_ret2
        rw [HN.out]
        exact ⟨HB.out, _, rfl⟩
      · rw [hr] at hpost
        obtain ⟨x2, rfl, hlu, htk2⟩ := hpost
        simp only at hlu htk2
        have HR2 : Hid (canL (t.kids.take (j + 1)) e p = some (us ++ [u], q2)) := by rw [Hid, HST.out, hr]; rfl
        have hm2 := hmid.out.step HPT.out.2 hb2 htk2
        have hb3 : Below w2.heap.size w2 (w2.alloc (.cells #[.pointer (some ⟨x2, 0, none⟩)] 50)) := below_alloc (Below.refl _ _) _
        have hm3 := hm2.below HPT.out.2 hb3
        have hTl := HPT.out.2
        have hk3 : KidsAt (w2.alloc (.cells #[.pointer (some ⟨x2, 0, none⟩)] 50)) (w.heap.size + 2) (fun i => w.heap.size + 2 ≤ i) v us := (hkids.out.keep hb2.size fun i hi hi2 => hb2.block i hi2 (by omega)).keep hb3.size fun i _ hi => hb3.block i hi
        have hs2 := hb2.size
        have hs3 := hb3.size
        have hwl := hmid.out.cells.2.2.2.2.2
        have hu3 : LiesP (w2.alloc (.cells #[.pointer (some ⟨x2, 0, none⟩)] 50)) (fun i => w.heap.size + 2 ≤ i ∧ i < (w2.alloc (.cells #[.pointer (some ⟨x2, 0, none⟩)] 50)).heap.size ∧ ∀ k, v.ownBlock = some k → i ≠ k) u x2 := by
          refine LiesP.mono (fun i hi hi2 => ⟨by omega, hi2, fun k hk e => by have := (hkids.out.own hk).2; omega⟩) (LiesP.keep (fun i _ hi => hb3.block i hi) (LiesP.of hlu))
        obtain ⟨v4, w4, e1, e2, e3⟩ := run_append_kid (ty := 58) hk3 (by omega) (by omega) (heap_alloc_new w2 _) hu3
        obtain ⟨o4, l4, cap4, rfl⟩ := e2.slice
        have hgb : Below (w.heap.size + 2) (w2.alloc (.cells #[.pointer (some ⟨x2, 0, none⟩)] 50)) w4 := ⟨e3.os, e3.tape, e3.output, e3.size, fun i hi => e3.block i (by omega) fun e => by have := (hkids.out.own e.symm).1; omega⟩
        have hm4 := hm3.far HPT.out.2 hgb
        have HM5 := Lib.hid (hm4.set3 HPT.out.2 (.slice o4 l4 cap4))
        have hk5 := Lib.hid (e2.keep (w' := w4.setCell ⟨w.heap.size + 1, 3, none⟩ (.slice o4 l4 cap4)) (by simp [World.setCell]) fun i hi _ => Below.heap_setCell _ _ _ _ (by simp; omega))
        have HE1 := Lib.hid e1
        obtain ⟨q0, q1, q2', q3, qf, ql⟩ := hm2.cells
        obtain ⟨p0, p1, p2, p3, pf, pl⟩ := hm4.cells
        clear hr hb2 hb3 hm2 hm3 hk3 hs2 hs3 hwl hu3 hlu e1 e2 e3 hgb hm4 e0 htk2 hTl
        go_wp2_with (at_builtin; refine Lib.wpList_append_run _ rfl (.tmp 98) (.tmp 100) _ _ rfl _ _ rfl rfl _ w4 HE1.out ?_)
        go_roundw
        case rel => exact ⟨j + 1, by omega, by go_num, us ++ [u], _, _, by simp [husl], HR2.out, HM5.out, hk5.out⟩
        case measure => simp [intOf]; omega
    · have HFI : Hid (res = some (mkT t.kind (e t.na) (e t.nb) us, q) ∧ Lies wr w.heap.size (mkT t.kind (e t.na) (e t.nb) us) (w.heap.size + 1)) := by
        have hke : j = t.kids.length := by omega
        have h1 := hcan.out
        rw [hke, List.take_length] at h1
        exact ⟨by rw [HRES.out, h1]; rfl, hmid.out.fin hkids.out (by omega)⟩
      go_wp2_with fail
      go_ret2
      rw [HFI.out.1]
      exact ⟨hmid.out.hb, _, rfl, HFI.out.2, hmid.out.tk⟩
set_option maxHeartbeats 2000000 in
set_option maxRecDepth 100000 in
theorem can_res (n : Nat) (ih : CanUpto n) (t : Tm) (e : UInt8 → UInt8) (p : UInt8 → Bool) (w : World) (P : Nat → Prop) (T b : Nat) (hs : t.size ≤ n + 1) (hw : Wf isLet t) (he : ∀ c, isLet c = true → isLet (e c) = true) (hl : LiesP w P t b) (hPT : ¬ P T) (htk : TkAt w T p)
    (k1 : t.kind = 35) (ha : t.na = 0) (hb : isLet t.nb = true) (res : Option (Tm × (UInt8 → Bool))) (hres : res = (freshOf p).bind fun c => (canL t.kids (eu e t.nb c) (orS p (eqS c))).map fun r => (mkT t.kind 0 c r.1, r.2)) :
    Calls Try.prog 124 #[.pointer (some ⟨b, 0, none⟩), .agg (beA e), .pointer (some ⟨T, 0, none⟩)] w (CanPost w T res) := by
  obtain ⟨o, cap, c0, c1, c2, c3, hk⟩ := hl.at
  have HK := Lib.hid hk
  have HPT : Hid (¬ P T ∧ T < w.heap.size) := ⟨hPT, htk.lt⟩
  have hPb : P b := by cases t <;> exact hl.1
  have HBT : Hid (b < w.heap.size ∧ b ≠ T) := ⟨hl.lt, fun e => hPT (e ▸ hPb)⟩
  have hkl : t.kids.length ≤ 2 := by cases t <;> simp [Tm.kids]
  have HSZ : Hid (∀ u, u ∈ t.kids → u.size ≤ n ∧ Wf isLet u) := fun u hu => by
    obtain ⟨i, hi, rfl⟩ := List.getElem_of_mem hu
    exact ⟨by have := kid_le t i hi; omega, kid_wf hw i hi⟩
  have hz1 := beA_size e
  have C0 := Lib.hid c0
  have C1 := Lib.hid c1
  have C2 := Lib.hid c2
  have C3 := Lib.hid c3
  have HTK := Lib.hid htk
  have hbi : bindsB t.kind = true := by rw [k1]; rfl
  have hbc := fun W h => binds_calls t.kind b W h
  rw [hbi] at hbc
  have na0 : (vl t.na != 0) = false := by rw [ha]; rfl
  have HBC := Lib.hid hbc
  obtain ⟨ib, hib, hvb, eb⟩ := let_index hb
  have EB := Lib.hid eb
  have nb0 : ((97 : Int) + ib != 0) = true := by rw [bne_iff_ne]; omega
  have x2 : ((97 : Int) + ib - 97) = ib := by omega
  have hfr := fun W => fresh_calls p W
  rcases hf : freshOf p with _ | c
  next =>
    rw [hf] at hfr hres
    have HFR : Hid (∀ W, Calls Try.prog 106 #[.int .u32 (setI p)] W fun e w' => e = .returned (.tuple #[.int .u8 0, .bool false]) ∧ W = w') := hfr
    have HN : Hid (res = none) := hres
    clear hs hw he hl hPT htk k1 ha hb hres c0 c1 c2 c3 hk hPb hbi hbc hfr hf eb
    go_enter Try.func124, Try.ntmps124
    go_upto_region 1 with fail
    have hb1 := below_alloc (Below.refl w.heap.size w) (.cells (beA e) 115)
    have c0' := (hb1.cell HBT.out.1).trans C0.out
    clear hb1
    go_upto_region 2 with fail
    refine name_worldc ?_
    intro W1 hW1
    have HM : Hid (MidC w W1 T t.kind 0 0 (.slice none 0 0) e p) := by rw [hW1]; exact MidC.start HPT.out.2 HTK.out t.kind 0 0 (.slice none 0 0) e _ _
    clear hW1 c0'
    have d0 := (HM.out.hb.cell (a := ⟨b, 0, none⟩) HBT.out.1 HBT.out.2).trans C0.out
    have d1 := (HM.out.hb.cell (a := ⟨b, 1, none⟩) HBT.out.1 HBT.out.2).trans C1.out
    have d2 := (HM.out.hb.cell (a := ⟨b, 2, none⟩) HBT.out.1 HBT.out.2).trans C2.out
    have d3 := (HM.out.hb.cell (a := ⟨b, 3, none⟩) HBT.out.1 HBT.out.2).trans C3.out
    obtain ⟨q0, q1, q2, q3, qf, ql⟩ := HM.out.cells
    skip
    go_wp2_with fail
    refine (HBC.out _ d0).mono ?_
    rintro e9 w' ⟨rfl, rfl⟩
    have tc := HM.out.tk.cell
    have tf := HM.out.tk.frozen 0
    go_wp2_with fail
    refine (HFR.out _).mono ?_
    rintro e9 w' ⟨rfl, rfl⟩
    go_wp2_with fail
    go_ret2
    rw [HN.out]
    exact ⟨HM.out.hb, _, rfl⟩
  rw [hf] at hfr hres
  have HFR : Hid (∀ W, Calls Try.prog 106 #[.int .u32 (setI p)] W fun e w' => e = .returned (.tuple #[.int .u8 (vl c), .bool true]) ∧ W = w') := hfr
  have HCL := Lib.hid (freshOf_let hf).1
  have HEL := Lib.hid (eu_let (x := t.nb) he HCL.out)
  have HRES : Hid (res = (canL t.kids (eu e t.nb c) (orS p (eqS c))).map fun r => (mkT t.kind 0 c r.1, r.2)) := hres
  clear hs hw he hl hPT htk k1 ha hb hres c0 c1 c2 c3 hk hPb hbi hbc hfr hf eb
  go_enter Try.func124, Try.ntmps124
  go_upto_region 1 with fail
  have hb1 := below_alloc (Below.refl w.heap.size w) (.cells (beA e) 115)
  have c0' := (hb1.cell HBT.out.1).trans C0.out
  clear hb1
  go_upto_region 2 with fail
  refine name_worldc ?_
  intro W1 hW1
  have HM : Hid (MidC w W1 T t.kind 0 0 (.slice none 0 0) e p) := by rw [hW1]; exact MidC.start HPT.out.2 HTK.out t.kind 0 0 (.slice none 0 0) e _ _
  clear hW1 c0'
  have d0 := (HM.out.hb.cell (a := ⟨b, 0, none⟩) HBT.out.1 HBT.out.2).trans C0.out
  have d1 := (HM.out.hb.cell (a := ⟨b, 1, none⟩) HBT.out.1 HBT.out.2).trans C1.out
  have d2 := (HM.out.hb.cell (a := ⟨b, 2, none⟩) HBT.out.1 HBT.out.2).trans C2.out
  have d3 := (HM.out.hb.cell (a := ⟨b, 3, none⟩) HBT.out.1 HBT.out.2).trans C3.out
  obtain ⟨q0, q1, q2, q3, qf, ql⟩ := HM.out.cells
  skip
  go_wp2_with fail
  refine (HBC.out _ d0).mono ?_
  rintro e9 w' ⟨rfl, rfl⟩
  have tc := HM.out.tk.cell
  have tf := HM.out.tk.frozen 0
  go_wp2_with fail
  refine (HFR.out _).mono ?_
  rintro e9 w' ⟨rfl, rfl⟩
  go_wp2_with fail
  clear tc tf
  refine name_worldc ?_
  intro Wc hWc
  have HMc : Hid (MidC w Wc T t.kind 0 0 (.slice none 0 0) e p) := by rw [hWc]; exact HM.out
  clear hWc HM d0 d1 d2 d3 q0 q1 q2 q3 qf ql
  refine wp_region_still_tail 7 (by kernel_rfl) (by kernel_rfl) ?_
  simp only [List.take_succ_cons, List.take_zero, List.drop_succ_cons, List.drop_zero]
  change wpStill _ _ (Wc.drewN 1) (fun a' => wpList _ _ _ _ a' (Wc.drewN 1)) _ _
  have hmd := HMc.out.below HPT.out.2 (pw_below_drewN (Below.refl Wc.heap.size Wc) 1)
  generalize Wc.drewN 1 = Wd at hmd ⊢
  have HMd := Lib.hid hmd
  have tc := hmd.tk.cell
  have tf := hmd.tk.frozen 0
  clear hmd HMc
  iterate 4 still_step
  still_call (bit_same HCL.out _)
  iterate 2 still_step
  refine wpStill_nil ?_
  go_upto_region 9 with fail
  clear tc tf
  refine name_worldc ?_
  intro W2 hW2
  have HM2 : Hid (MidC w W2 T t.kind 0 0 (.slice none 0 0) e (orS p (eqS c))) := by rw [hW2]; exact (by rw [set_or]; exact HMd.out.take HPT.out.2 _)
  clear hW2 HMd
  have HM := HM2
  clear HM2
  have d0 := (HM.out.hb.cell (a := ⟨b, 0, none⟩) HBT.out.1 HBT.out.2).trans C0.out
  have d1 := (HM.out.hb.cell (a := ⟨b, 1, none⟩) HBT.out.1 HBT.out.2).trans C1.out
  have d2 := (HM.out.hb.cell (a := ⟨b, 2, none⟩) HBT.out.1 HBT.out.2).trans C2.out
  have d3 := (HM.out.hb.cell (a := ⟨b, 3, none⟩) HBT.out.1 HBT.out.2).trans C3.out
  obtain ⟨q0, q1, q2, q3, qf, ql⟩ := HM.out.cells
  rw [hvb] at d2
  have g2 := HM.out.env.cell hib
  have g3 := HM.out.env.frozen ib
  go_upto_region 10 with fail
  clear g2 g3
  refine name_worldc ?_
  intro W2 hW2
  have HM2 : Hid (MidC w W2 T t.kind 0 0 (.slice none 0 0) (eu e t.nb c) (orS p (eqS c))) := by rw [hW2]; exact (by rw [EB.out]; exact HM.out.put HPT.out.2 hib c)
  clear hW2 HM d0 d1 d2 d3 q0 q1 q2 q3 qf ql
  have HM := HM2
  clear HM2
  have d0 := (HM.out.hb.cell (a := ⟨b, 0, none⟩) HBT.out.1 HBT.out.2).trans C0.out
  have d1 := (HM.out.hb.cell (a := ⟨b, 1, none⟩) HBT.out.1 HBT.out.2).trans C1.out
  have d2 := (HM.out.hb.cell (a := ⟨b, 2, none⟩) HBT.out.1 HBT.out.2).trans C2.out
  have d3 := (HM.out.hb.cell (a := ⟨b, 3, none⟩) HBT.out.1 HBT.out.2).trans C3.out
  obtain ⟨q0, q1, q2, q3, qf, ql⟩ := HM.out.cells
  rw [hvb] at d2
  have g2 := HM.out.env.cell hib
  rw [← EB.out] at g2
  rw [eu_at] at g2
  go_upto_region 12 with fail
  clear g2
  refine name_worldc ?_
  intro W2 hW2
  have HM2 : Hid (MidC w W2 T t.kind 0 c (.slice none 0 0) (eu e t.nb c) (orS p (eqS c))) := by rw [hW2]; exact (HM.out.set2 HPT.out.2 _)
  clear hW2 HM d0 d1 d2 d3 q0 q1 q2 q3 qf ql
  have HM := HM2
  clear HM2
  have d0 := (HM.out.hb.cell (a := ⟨b, 0, none⟩) HBT.out.1 HBT.out.2).trans C0.out
  have d1 := (HM.out.hb.cell (a := ⟨b, 1, none⟩) HBT.out.1 HBT.out.2).trans C1.out
  have d2 := (HM.out.hb.cell (a := ⟨b, 2, none⟩) HBT.out.1 HBT.out.2).trans C2.out
  have d3 := (HM.out.hb.cell (a := ⟨b, 3, none⟩) HBT.out.1 HBT.out.2).trans C3.out
  obtain ⟨q0, q1, q2, q3, qf, ql⟩ := HM.out.cells
  go_wp2_with fail
  go_loopw [81] (fun i wr => ∃ j : Nat, j ≤ t.kids.length ∧ i = .int .i64 j ∧ ∃ us v q, us.length = j ∧ Hid (canL (t.kids.take j) (eu e t.nb c) (orS p (eqS c)) = some (us, q)) ∧ Hid (MidC w wr T t.kind 0 c v (eu e t.nb c) q) ∧ Hid (KidsAt wr (w.heap.size + 2) (fun i => w.heap.size + 2 ≤ i) v us)) (fun i _ => t.kids.length - (intOf i).toNat)
  case atStart => exact ⟨0, Nat.zero_le _, rfl, [], _, (orS p (eqS c)), rfl, rfl, HM.out, KidsAt.nil _ _ _⟩
  case round =>
    obtain ⟨j, hj, rfl, us, v, q, husl, hcan, hmid, hkids⟩ := hrel
    by_cases hlt : j < t.kids.length
    · obtain ⟨r, x, hro, hpr, hkid, hlx⟩ := HK.out j hlt
      cases hro
      have hrT : r ≠ T := fun e => HPT.out.1 (e ▸ hpr)
      have e0 := (hkid.keep (hmid.out.hb.block r hkid.lt hrT)).cell
      have HLX : Hid (LiesP wr P t.kids[j] x) := LiesP.keep (w' := wr) (fun i hi hi2 => hmid.out.hb.block i hi2 fun e => HPT.out.1 (e ▸ hi)) hlx
      have HST : Hid (canL (t.kids.take (j + 1)) (eu e t.nb c) (orS p (eqS c)) = (canI t.kids[j] (eu e t.nb c) q).map fun r => (us ++ [r.1], r.2)) := canL_step hlt hcan.out
      have HS2 : Hid (t.kids[j].size ≤ n ∧ Wf isLet t.kids[j]) := HSZ.out _ (List.getElem_mem hlt)
      have hrec := ih t.kids[j] (eu e t.nb c) q wr P T x HS2.out.1 HS2.out.2 HEL.out HLX.out HPT.out.1 hmid.out.tk
      have hU := Try.underlying115
      have hI : (Try.prog.info? 115).map (·.size) = some (beL (eu e t.nb c)).length := by rw [beL_len]; exact Try.infoBe
      have hlt4 : (j : Int) < (t.kids.length : Int) := by omega
      clear hpr hkid hlx hrT
      go_wp2_with (first | ((with_reducible refine gate_dst (N := 87) rfl ?_); refine wpList_load_mid (by rfl) 115 (.tmp 4) (by rfl) w.heap.size 0 (by rfl) (beL (eu e t.nb c)) _ hmid.out.env.range hU rfl hI ?_))
      refine hrec.mono ?_
      rintro e9 w2 ⟨hb2, hpost⟩
      clear hU hI hrec
      rcases hr : canI t.kids[j] (eu e t.nb c) q with _ | ⟨u, q2⟩
      · rw [hr] at hpost
        obtain ⟨z, rfl⟩ := hpost
        have HN : Hid (res = none) := by
          have h1 : canL (t.kids.take (j + 1)) (eu e t.nb c) (orS p (eqS c)) = none := by rw [HST.out, hr]; rfl
          rw [Hid, HRES.out, canL_none h1]; rfl
        have HB := Lib.hid (hmid.out.hb.trans hb2)
        clear hr hb2 e0
        go_wp2_with fail
        go_ret2
        rw [HN.out]
        exact ⟨HB.out, _, rfl⟩
      · rw [hr] at hpost
        obtain ⟨x2, rfl, hlu, htk2⟩ := hpost
        simp only at hlu htk2
        have HR2 : Hid (canL (t.kids.take (j + 1)) (eu e t.nb c) (orS p (eqS c)) = some (us ++ [u], q2)) := by rw [Hid, HST.out, hr]; rfl
        have hm2 := hmid.out.step HPT.out.2 hb2 htk2
        have hb3 : Below w2.heap.size w2 (w2.alloc (.cells #[.pointer (some ⟨x2, 0, none⟩)] 50)) := below_alloc (Below.refl _ _) _
        have hm3 := hm2.below HPT.out.2 hb3
        have hTl := HPT.out.2
        have hk3 : KidsAt (w2.alloc (.cells #[.pointer (some ⟨x2, 0, none⟩)] 50)) (w.heap.size + 2) (fun i => w.heap.size + 2 ≤ i) v us := (hkids.out.keep hb2.size fun i hi hi2 => hb2.block i hi2 (by omega)).keep hb3.size fun i _ hi => hb3.block i hi
        have hs2 := hb2.size
        have hs3 := hb3.size
        have hwl := hmid.out.cells.2.2.2.2.2
        have hu3 : LiesP (w2.alloc (.cells #[.pointer (some ⟨x2, 0, none⟩)] 50)) (fun i => w.heap.size + 2 ≤ i ∧ i < (w2.alloc (.cells #[.pointer (some ⟨x2, 0, none⟩)] 50)).heap.size ∧ ∀ k, v.ownBlock = some k → i ≠ k) u x2 := by
          refine LiesP.mono (fun i hi hi2 => ⟨by omega, hi2, fun k hk e => by have := (hkids.out.own hk).2; omega⟩) (LiesP.keep (fun i _ hi => hb3.block i hi) (LiesP.of hlu))
        obtain ⟨v4, w4, e1, e2, e3⟩ := run_append_kid (ty := 58) hk3 (by omega) (by omega) (heap_alloc_new w2 _) hu3
        obtain ⟨o4, l4, cap4, rfl⟩ := e2.slice
        have hgb : Below (w.heap.size + 2) (w2.alloc (.cells #[.pointer (some ⟨x2, 0, none⟩)] 50)) w4 := ⟨e3.os, e3.tape, e3.output, e3.size, fun i hi => e3.block i (by omega) fun e => by have := (hkids.out.own e.symm).1; omega⟩
        have hm4 := hm3.far HPT.out.2 hgb
        have HM5 := Lib.hid (hm4.set3 HPT.out.2 (.slice o4 l4 cap4))
        have hk5 := Lib.hid (e2.keep (w' := w4.setCell ⟨w.heap.size + 1, 3, none⟩ (.slice o4 l4 cap4)) (by simp [World.setCell]) fun i hi _ => Below.heap_setCell _ _ _ _ (by simp; omega))
        have HE1 := Lib.hid e1
        obtain ⟨q0, q1, q2', q3, qf, ql⟩ := hm2.cells
        obtain ⟨p0, p1, p2, p3, pf, pl⟩ := hm4.cells
        clear hr hb2 hb3 hm2 hm3 hk3 hs2 hs3 hwl hu3 hlu e1 e2 e3 hgb hm4 e0 htk2 hTl
        go_wp2_with (at_builtin; refine Lib.wpList_append_run _ rfl (.tmp 98) (.tmp 100) _ _ rfl _ _ rfl rfl _ w4 HE1.out ?_)
        go_roundw
        case rel => exact ⟨j + 1, by omega, by go_num, us ++ [u], _, _, by simp [husl], HR2.out, HM5.out, hk5.out⟩
        case measure => simp [intOf]; omega
    · have HFI : Hid (res = some (mkT t.kind 0 c us, q) ∧ Lies wr w.heap.size (mkT t.kind 0 c us) (w.heap.size + 1)) := by
        have hke : j = t.kids.length := by omega
        have h1 := hcan.out
        rw [hke, List.take_length] at h1
        exact ⟨by rw [HRES.out, h1]; rfl, hmid.out.fin hkids.out (by omega)⟩
      go_wp2_with fail
      go_ret2
      rw [HFI.out.1]
      exact ⟨hmid.out.hb, _, rfl, HFI.out.2, hmid.out.tk⟩
set_option maxHeartbeats 2000000 in
set_option maxRecDepth 100000 in
theorem can_in (n : Nat) (ih : CanUpto n) (t : Tm) (e : UInt8 → UInt8) (p : UInt8 → Bool) (w : World) (P : Nat → Prop) (T b : Nat) (hs : t.size ≤ n + 1) (hw : Wf isLet t) (he : ∀ c, isLet c = true → isLet (e c) = true) (hl : LiesP w P t b) (hPT : ¬ P T) (htk : TkAt w T p)
    (k1 : t.kind = 63) (ha : isLet t.na = true) (hb : isLet t.nb = true) (res : Option (Tm × (UInt8 → Bool))) (hres : res = (freshOf p).bind fun c => (canL t.kids (eu e t.nb c) (orS p (eqS c))).map fun r => (mkT t.kind (e t.na) c r.1, r.2)) :
    Calls Try.prog 124 #[.pointer (some ⟨b, 0, none⟩), .agg (beA e), .pointer (some ⟨T, 0, none⟩)] w (CanPost w T res) := by
  obtain ⟨o, cap, c0, c1, c2, c3, hk⟩ := hl.at
  have HK := Lib.hid hk
  have HPT : Hid (¬ P T ∧ T < w.heap.size) := ⟨hPT, htk.lt⟩
  have hPb : P b := by cases t <;> exact hl.1
  have HBT : Hid (b < w.heap.size ∧ b ≠ T) := ⟨hl.lt, fun e => hPT (e ▸ hPb)⟩
  have hkl : t.kids.length ≤ 2 := by cases t <;> simp [Tm.kids]
  have HSZ : Hid (∀ u, u ∈ t.kids → u.size ≤ n ∧ Wf isLet u) := fun u hu => by
    obtain ⟨i, hi, rfl⟩ := List.getElem_of_mem hu
    exact ⟨by have := kid_le t i hi; omega, kid_wf hw i hi⟩
  have hz1 := beA_size e
  have C0 := Lib.hid c0
  have C1 := Lib.hid c1
  have C2 := Lib.hid c2
  have C3 := Lib.hid c3
  have HTK := Lib.hid htk
  have hbi : bindsB t.kind = true := by rw [k1]; rfl
  have hbc := fun W h => binds_calls t.kind b W h
  rw [hbi] at hbc
  obtain ⟨ia, hia, hva, ea⟩ := let_index ha
  have EA := Lib.hid ea
  have na0 : ((97 : Int) + ia != 0) = true := by rw [bne_iff_ne]; omega
  have x1 : ((97 : Int) + ia - 97) = ia := by omega
  clear ea
  have HBC := Lib.hid hbc
  obtain ⟨ib, hib, hvb, eb⟩ := let_index hb
  have EB := Lib.hid eb
  have nb0 : ((97 : Int) + ib != 0) = true := by rw [bne_iff_ne]; omega
  have x2 : ((97 : Int) + ib - 97) = ib := by omega
  have hfr := fun W => fresh_calls p W
  rcases hf : freshOf p with _ | c
  next =>
    rw [hf] at hfr hres
    have HFR : Hid (∀ W, Calls Try.prog 106 #[.int .u32 (setI p)] W fun e w' => e = .returned (.tuple #[.int .u8 0, .bool false]) ∧ W = w') := hfr
    have HN : Hid (res = none) := hres
    clear hs hw he hl hPT htk k1 ha hb hres c0 c1 c2 c3 hk hPb hbi hbc hfr hf eb
    go_enter Try.func124, Try.ntmps124
    go_upto_region 1 with fail
    have hb1 := below_alloc (Below.refl w.heap.size w) (.cells (beA e) 115)
    have c0' := (hb1.cell HBT.out.1).trans C0.out
    clear hb1
    go_upto_region 2 with fail
    refine name_worldc ?_
    intro W1 hW1
    have HM : Hid (MidC w W1 T t.kind 0 0 (.slice none 0 0) e p) := by rw [hW1]; exact MidC.start HPT.out.2 HTK.out t.kind 0 0 (.slice none 0 0) e _ _
    clear hW1 c0'
    have d0 := (HM.out.hb.cell (a := ⟨b, 0, none⟩) HBT.out.1 HBT.out.2).trans C0.out
    have d1 := (HM.out.hb.cell (a := ⟨b, 1, none⟩) HBT.out.1 HBT.out.2).trans C1.out
    have d2 := (HM.out.hb.cell (a := ⟨b, 2, none⟩) HBT.out.1 HBT.out.2).trans C2.out
    have d3 := (HM.out.hb.cell (a := ⟨b, 3, none⟩) HBT.out.1 HBT.out.2).trans C3.out
    obtain ⟨q0, q1, q2, q3, qf, ql⟩ := HM.out.cells
    rw [hva] at d1
    have g1 := HM.out.env.cell hia
    rw [← EA.out] at g1
    go_upto_region 4 with fail
    clear g1
    refine name_worldc ?_
    intro W2 hW2
    have HM2 : Hid (MidC w W2 T t.kind (e t.na) 0 (.slice none 0 0) e p) := by rw [hW2]; exact (HM.out.set1 HPT.out.2 _)
    clear hW2 HM d0 d1 d2 d3 q0 q1 q2 q3 qf ql
    have HM := HM2
    clear HM2
    have d0 := (HM.out.hb.cell (a := ⟨b, 0, none⟩) HBT.out.1 HBT.out.2).trans C0.out
    have d1 := (HM.out.hb.cell (a := ⟨b, 1, none⟩) HBT.out.1 HBT.out.2).trans C1.out
    have d2 := (HM.out.hb.cell (a := ⟨b, 2, none⟩) HBT.out.1 HBT.out.2).trans C2.out
    have d3 := (HM.out.hb.cell (a := ⟨b, 3, none⟩) HBT.out.1 HBT.out.2).trans C3.out
    obtain ⟨q0, q1, q2, q3, qf, ql⟩ := HM.out.cells
    go_wp2_with fail
    refine (HBC.out _ d0).mono ?_
    rintro e9 w' ⟨rfl, rfl⟩
    have tc := HM.out.tk.cell
    have tf := HM.out.tk.frozen 0
    go_wp2_with fail
    refine (HFR.out _).mono ?_
    rintro e9 w' ⟨rfl, rfl⟩
    go_wp2_with fail
    go_ret2
    rw [HN.out]
    exact ⟨HM.out.hb, _, rfl⟩
  rw [hf] at hfr hres
  have HFR : Hid (∀ W, Calls Try.prog 106 #[.int .u32 (setI p)] W fun e w' => e = .returned (.tuple #[.int .u8 (vl c), .bool true]) ∧ W = w') := hfr
  have HCL := Lib.hid (freshOf_let hf).1
  have HEL := Lib.hid (eu_let (x := t.nb) he HCL.out)
  have HRES : Hid (res = (canL t.kids (eu e t.nb c) (orS p (eqS c))).map fun r => (mkT t.kind (e t.na) c r.1, r.2)) := hres
  clear hs hw he hl hPT htk k1 ha hb hres c0 c1 c2 c3 hk hPb hbi hbc hfr hf eb
  go_enter Try.func124, Try.ntmps124
  go_upto_region 1 with fail
  have hb1 := below_alloc (Below.refl w.heap.size w) (.cells (beA e) 115)
  have c0' := (hb1.cell HBT.out.1).trans C0.out
  clear hb1
  go_upto_region 2 with fail
  refine name_worldc ?_
  intro W1 hW1
  have HM : Hid (MidC w W1 T t.kind 0 0 (.slice none 0 0) e p) := by rw [hW1]; exact MidC.start HPT.out.2 HTK.out t.kind 0 0 (.slice none 0 0) e _ _
  clear hW1 c0'
  have d0 := (HM.out.hb.cell (a := ⟨b, 0, none⟩) HBT.out.1 HBT.out.2).trans C0.out
  have d1 := (HM.out.hb.cell (a := ⟨b, 1, none⟩) HBT.out.1 HBT.out.2).trans C1.out
  have d2 := (HM.out.hb.cell (a := ⟨b, 2, none⟩) HBT.out.1 HBT.out.2).trans C2.out
  have d3 := (HM.out.hb.cell (a := ⟨b, 3, none⟩) HBT.out.1 HBT.out.2).trans C3.out
  obtain ⟨q0, q1, q2, q3, qf, ql⟩ := HM.out.cells
  rw [hva] at d1
  have g1 := HM.out.env.cell hia
  rw [← EA.out] at g1
  go_upto_region 4 with fail
  clear g1
  refine name_worldc ?_
  intro W2 hW2
  have HM2 : Hid (MidC w W2 T t.kind (e t.na) 0 (.slice none 0 0) e p) := by rw [hW2]; exact (HM.out.set1 HPT.out.2 _)
  clear hW2 HM d0 d1 d2 d3 q0 q1 q2 q3 qf ql
  have HM := HM2
  clear HM2
  have d0 := (HM.out.hb.cell (a := ⟨b, 0, none⟩) HBT.out.1 HBT.out.2).trans C0.out
  have d1 := (HM.out.hb.cell (a := ⟨b, 1, none⟩) HBT.out.1 HBT.out.2).trans C1.out
  have d2 := (HM.out.hb.cell (a := ⟨b, 2, none⟩) HBT.out.1 HBT.out.2).trans C2.out
  have d3 := (HM.out.hb.cell (a := ⟨b, 3, none⟩) HBT.out.1 HBT.out.2).trans C3.out
  obtain ⟨q0, q1, q2, q3, qf, ql⟩ := HM.out.cells
  go_wp2_with fail
  refine (HBC.out _ d0).mono ?_
  rintro e9 w' ⟨rfl, rfl⟩
  have tc := HM.out.tk.cell
  have tf := HM.out.tk.frozen 0
  go_wp2_with fail
  refine (HFR.out _).mono ?_
  rintro e9 w' ⟨rfl, rfl⟩
  go_wp2_with fail
  clear tc tf
  refine name_worldc ?_
  intro Wc hWc
  have HMc : Hid (MidC w Wc T t.kind (e t.na) 0 (.slice none 0 0) e p) := by rw [hWc]; exact HM.out
  clear hWc HM d0 d1 d2 d3 q0 q1 q2 q3 qf ql
  refine wp_region_still_tail 7 (by kernel_rfl) (by kernel_rfl) ?_
  simp only [List.take_succ_cons, List.take_zero, List.drop_succ_cons, List.drop_zero]
  change wpStill _ _ (Wc.drewN 1) (fun a' => wpList _ _ _ _ a' (Wc.drewN 1)) _ _
  have hmd := HMc.out.below HPT.out.2 (pw_below_drewN (Below.refl Wc.heap.size Wc) 1)
  generalize Wc.drewN 1 = Wd at hmd ⊢
  have HMd := Lib.hid hmd
  have tc := hmd.tk.cell
  have tf := hmd.tk.frozen 0
  clear hmd HMc
  iterate 4 still_step
  still_call (bit_same HCL.out _)
  iterate 2 still_step
  refine wpStill_nil ?_
  go_upto_region 9 with fail
  clear tc tf
  refine name_worldc ?_
  intro W2 hW2
  have HM2 : Hid (MidC w W2 T t.kind (e t.na) 0 (.slice none 0 0) e (orS p (eqS c))) := by rw [hW2]; exact (by rw [set_or]; exact HMd.out.take HPT.out.2 _)
  clear hW2 HMd
  have HM := HM2
  clear HM2
  have d0 := (HM.out.hb.cell (a := ⟨b, 0, none⟩) HBT.out.1 HBT.out.2).trans C0.out
  have d1 := (HM.out.hb.cell (a := ⟨b, 1, none⟩) HBT.out.1 HBT.out.2).trans C1.out
  have d2 := (HM.out.hb.cell (a := ⟨b, 2, none⟩) HBT.out.1 HBT.out.2).trans C2.out
  have d3 := (HM.out.hb.cell (a := ⟨b, 3, none⟩) HBT.out.1 HBT.out.2).trans C3.out
  obtain ⟨q0, q1, q2, q3, qf, ql⟩ := HM.out.cells
  rw [hvb] at d2
  have g2 := HM.out.env.cell hib
  have g3 := HM.out.env.frozen ib
  go_upto_region 10 with fail
  clear g2 g3
  refine name_worldc ?_
  intro W2 hW2
  have HM2 : Hid (MidC w W2 T t.kind (e t.na) 0 (.slice none 0 0) (eu e t.nb c) (orS p (eqS c))) := by rw [hW2]; exact (by rw [EB.out]; exact HM.out.put HPT.out.2 hib c)
  clear hW2 HM d0 d1 d2 d3 q0 q1 q2 q3 qf ql
  have HM := HM2
  clear HM2
  have d0 := (HM.out.hb.cell (a := ⟨b, 0, none⟩) HBT.out.1 HBT.out.2).trans C0.out
  have d1 := (HM.out.hb.cell (a := ⟨b, 1, none⟩) HBT.out.1 HBT.out.2).trans C1.out
  have d2 := (HM.out.hb.cell (a := ⟨b, 2, none⟩) HBT.out.1 HBT.out.2).trans C2.out
  have d3 := (HM.out.hb.cell (a := ⟨b, 3, none⟩) HBT.out.1 HBT.out.2).trans C3.out
  obtain ⟨q0, q1, q2, q3, qf, ql⟩ := HM.out.cells
  rw [hvb] at d2
  have g2 := HM.out.env.cell hib
  rw [← EB.out] at g2
  rw [eu_at] at g2
  go_upto_region 12 with fail
  clear g2
  refine name_worldc ?_
  intro W2 hW2
  have HM2 : Hid (MidC w W2 T t.kind (e t.na) c (.slice none 0 0) (eu e t.nb c) (orS p (eqS c))) := by rw [hW2]; exact (HM.out.set2 HPT.out.2 _)
  clear hW2 HM d0 d1 d2 d3 q0 q1 q2 q3 qf ql
  have HM := HM2
  clear HM2
  have d0 := (HM.out.hb.cell (a := ⟨b, 0, none⟩) HBT.out.1 HBT.out.2).trans C0.out
  have d1 := (HM.out.hb.cell (a := ⟨b, 1, none⟩) HBT.out.1 HBT.out.2).trans C1.out
  have d2 := (HM.out.hb.cell (a := ⟨b, 2, none⟩) HBT.out.1 HBT.out.2).trans C2.out
  have d3 := (HM.out.hb.cell (a := ⟨b, 3, none⟩) HBT.out.1 HBT.out.2).trans C3.out
  obtain ⟨q0, q1, q2, q3, qf, ql⟩ := HM.out.cells
  go_wp2_with fail
  go_loopw [81] (fun i wr => ∃ j : Nat, j ≤ t.kids.length ∧ i = .int .i64 j ∧ ∃ us v q, us.length = j ∧ Hid (canL (t.kids.take j) (eu e t.nb c) (orS p (eqS c)) = some (us, q)) ∧ Hid (MidC w wr T t.kind (e t.na) c v (eu e t.nb c) q) ∧ Hid (KidsAt wr (w.heap.size + 2) (fun i => w.heap.size + 2 ≤ i) v us)) (fun i _ => t.kids.length - (intOf i).toNat)
  case atStart => exact ⟨0, Nat.zero_le _, rfl, [], _, (orS p (eqS c)), rfl, rfl, HM.out, KidsAt.nil _ _ _⟩
  case round =>
    obtain ⟨j, hj, rfl, us, v, q, husl, hcan, hmid, hkids⟩ := hrel
    by_cases hlt : j < t.kids.length
    · obtain ⟨r, x, hro, hpr, hkid, hlx⟩ := HK.out j hlt
      cases hro
      have hrT : r ≠ T := fun e => HPT.out.1 (e ▸ hpr)
      have e0 := (hkid.keep (hmid.out.hb.block r hkid.lt hrT)).cell
      have HLX : Hid (LiesP wr P t.kids[j] x) := LiesP.keep (w' := wr) (fun i hi hi2 => hmid.out.hb.block i hi2 fun e => HPT.out.1 (e ▸ hi)) hlx
      have HST : Hid (canL (t.kids.take (j + 1)) (eu e t.nb c) (orS p (eqS c)) = (canI t.kids[j] (eu e t.nb c) q).map fun r => (us ++ [r.1], r.2)) := canL_step hlt hcan.out
      have HS2 : Hid (t.kids[j].size ≤ n ∧ Wf isLet t.kids[j]) := HSZ.out _ (List.getElem_mem hlt)
      have hrec := ih t.kids[j] (eu e t.nb c) q wr P T x HS2.out.1 HS2.out.2 HEL.out HLX.out HPT.out.1 hmid.out.tk
      have hU := Try.underlying115
      have hI : (Try.prog.info? 115).map (·.size) = some (beL (eu e t.nb c)).length := by rw [beL_len]; exact Try.infoBe
      have hlt4 : (j : Int) < (t.kids.length : Int) := by omega
      clear hpr hkid hlx hrT
      go_wp2_with (first | ((with_reducible refine gate_dst (N := 87) rfl ?_); refine wpList_load_mid (by rfl) 115 (.tmp 4) (by rfl) w.heap.size 0 (by rfl) (beL (eu e t.nb c)) _ hmid.out.env.range hU rfl hI ?_))
      refine hrec.mono ?_
      rintro e9 w2 ⟨hb2, hpost⟩
      clear hU hI hrec
      rcases hr : canI t.kids[j] (eu e t.nb c) q with _ | ⟨u, q2⟩
      · rw [hr] at hpost
        obtain ⟨z, rfl⟩ := hpost
        have HN : Hid (res = none) := by
          have h1 : canL (t.kids.take (j + 1)) (eu e t.nb c) (orS p (eqS c)) = none := by rw [HST.out, hr]; rfl
          rw [Hid, HRES.out, canL_none h1]; rfl
        have HB := Lib.hid (hmid.out.hb.trans hb2)
        clear hr hb2 e0
        go_wp2_with fail
        go_ret2
        rw [HN.out]
        exact ⟨HB.out, _, rfl⟩
      · rw [hr] at hpost
        obtain ⟨x2, rfl, hlu, htk2⟩ := hpost
        simp only at hlu htk2
        have HR2 : Hid (canL (t.kids.take (j + 1)) (eu e t.nb c) (orS p (eqS c)) = some (us ++ [u], q2)) := by rw [Hid, HST.out, hr]; rfl
        have hm2 := hmid.out.step HPT.out.2 hb2 htk2
        have hb3 : Below w2.heap.size w2 (w2.alloc (.cells #[.pointer (some ⟨x2, 0, none⟩)] 50)) := below_alloc (Below.refl _ _) _
        have hm3 := hm2.below HPT.out.2 hb3
        have hTl := HPT.out.2
        have hk3 : KidsAt (w2.alloc (.cells #[.pointer (some ⟨x2, 0, none⟩)] 50)) (w.heap.size + 2) (fun i => w.heap.size + 2 ≤ i) v us := (hkids.out.keep hb2.size fun i hi hi2 => hb2.block i hi2 (by omega)).keep hb3.size fun i _ hi => hb3.block i hi
        have hs2 := hb2.size
        have hs3 := hb3.size
        have hwl := hmid.out.cells.2.2.2.2.2
        have hu3 : LiesP (w2.alloc (.cells #[.pointer (some ⟨x2, 0, none⟩)] 50)) (fun i => w.heap.size + 2 ≤ i ∧ i < (w2.alloc (.cells #[.pointer (some ⟨x2, 0, none⟩)] 50)).heap.size ∧ ∀ k, v.ownBlock = some k → i ≠ k) u x2 := by
          refine LiesP.mono (fun i hi hi2 => ⟨by omega, hi2, fun k hk e => by have := (hkids.out.own hk).2; omega⟩) (LiesP.keep (fun i _ hi => hb3.block i hi) (LiesP.of hlu))
        obtain ⟨v4, w4, e1, e2, e3⟩ := run_append_kid (ty := 58) hk3 (by omega) (by omega) (heap_alloc_new w2 _) hu3
        obtain ⟨o4, l4, cap4, rfl⟩ := e2.slice
        have hgb : Below (w.heap.size + 2) (w2.alloc (.cells #[.pointer (some ⟨x2, 0, none⟩)] 50)) w4 := ⟨e3.os, e3.tape, e3.output, e3.size, fun i hi => e3.block i (by omega) fun e => by have := (hkids.out.own e.symm).1; omega⟩
        have hm4 := hm3.far HPT.out.2 hgb
        have HM5 := Lib.hid (hm4.set3 HPT.out.2 (.slice o4 l4 cap4))
        have hk5 := Lib.hid (e2.keep (w' := w4.setCell ⟨w.heap.size + 1, 3, none⟩ (.slice o4 l4 cap4)) (by simp [World.setCell]) fun i hi _ => Below.heap_setCell _ _ _ _ (by simp; omega))
        have HE1 := Lib.hid e1
        obtain ⟨q0, q1, q2', q3, qf, ql⟩ := hm2.cells
        obtain ⟨p0, p1, p2, p3, pf, pl⟩ := hm4.cells
        clear hr hb2 hb3 hm2 hm3 hk3 hs2 hs3 hwl hu3 hlu e1 e2 e3 hgb hm4 e0 htk2 hTl
        go_wp2_with (at_builtin; refine Lib.wpList_append_run _ rfl (.tmp 98) (.tmp 100) _ _ rfl _ _ rfl rfl _ w4 HE1.out ?_)
        go_roundw
        case rel => exact ⟨j + 1, by omega, by go_num, us ++ [u], _, _, by simp [husl], HR2.out, HM5.out, hk5.out⟩
        case measure => simp [intOf]; omega
    · have HFI : Hid (res = some (mkT t.kind (e t.na) c us, q) ∧ Lies wr w.heap.size (mkT t.kind (e t.na) c us) (w.heap.size + 1)) := by
        have hke : j = t.kids.length := by omega
        have h1 := hcan.out
        rw [hke, List.take_length] at h1
        exact ⟨by rw [HRES.out, h1]; rfl, hmid.out.fin hkids.out (by omega)⟩
      go_wp2_with fail
      go_ret2
      rw [HFI.out.1]
      exact ⟨hmid.out.hb, _, rfl, HFI.out.2, hmid.out.tk⟩

end Go.Proofs.Ytfcadppidgkoaaa
