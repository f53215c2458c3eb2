/- The walk of rename: the kinds that rename their own names. -/
import Derived.Test.YtfcadppidgkoaaaRenW
namespace Go.Proofs.Ytfcadppidgkoaaa
open Go.RowKit Go.Proofs.YtfcadppidgkoaaaW.PrintWords Go.Proofs.YtfcadppidgkoaaaW.PrintMore
set_option linter.unusedVariables false
set_option linter.unusedSimpArgs false

set_option maxHeartbeats 20000000 in
set_option maxRecDepth 100000 in
theorem ren_name (n : Nat) (ih : RenUpto n) (hn100 : n ≤ 99) (T : Tm) (old name : UInt8) (w : World) (P : Nat → Prop) (b : Nat) (hTs : T.size ≤ n + 1) (hw : Wf isLet T) (hsz0 : ∀ u, u ∈ T.kids → u.size ≤ n ∧ Wf isLet u) (hkl0 : T.kids.length ≤ 2) (ho : isLet old = true) (hn : isLet name = true) (hl : LiesP w P T b)
    (h1 : old ≠ name) (hf : T.fr old = true) (hq : (vl T.kind == 33) = true ∨ (vl T.kind == 33) = false ∧ (vl T.kind == 61) = true) (res : Option Tm) (hres : res = (renL n old name T.kids).map (mkT T.kind (swp T.na old name) (swp T.nb old name))) :
    Calls Try.prog 87 #[.pointer (some ⟨b, 0, none⟩), .int .u8 (vl old), .int .u8 (vl name)] w (RenPost w P res) := by
  have hsz : T.size ≤ 100 := by omega
  obtain ⟨o, cap, c0, c1, c2, c3, hk⟩ := hl.at
  have HK := Lib.hid hk
  have HSZ := Lib.hid hsz0
  have HL := Lib.hid hl
  have HFC := Lib.hid (free_any 100 _ w 0 b (by omega) (by omega) hw hl.lies)
  have e1 : (vl old == vl name) = false := by rw [beq_eq_false_iff_ne]; exact fun e => h1 (vl_inj.mp e)
  have e2 := is_free ho hf
  have HB := Lib.hid (fun W => bit_calls ho W)
  have hbl := hl.lt
  have HLO : Hid (isLet old = true ∧ isLet name = true) := ⟨ho, hn⟩
  obtain ⟨k, hkk⟩ : ∃ k, T.kind = k := ⟨_, rfl⟩
  obtain ⟨a, haa⟩ : ∃ k, T.na = k := ⟨_, rfl⟩
  obtain ⟨c, hcc⟩ : ∃ k, T.nb = k := ⟨_, rfl⟩
  rw [hkk] at c0 hq hres
  rw [haa] at c1 hres
  rw [hcc] at c2 hres
  have HRES := Lib.hid hres
  have HS1 := Lib.hid (fun W => swap_calls a old name W)
  have HS2 := Lib.hid (fun W => swap_calls c old name W)
  clear hk hl hw h1 hf hres ho hn hkk haa hcc hsz0 hTs
  rcases hq with q1 | ⟨q1, q2⟩
  next =>
    replace c0 : w.cell? ⟨b, 0, none⟩ = some (.int .u8 (vl k)) := c0
    replace c1 : w.cell? ⟨b, 1, none⟩ = some (.int .u8 (vl a)) := c1
    replace c2 : w.cell? ⟨b, 2, none⟩ = some (.int .u8 (vl c)) := c2
    go_enter Try.func87, Try.ntmps87
    go_wp2_with fail
    refine HFC.out.mono ?_
    rintro e w' ⟨rfl, m, rfl⟩
    go_wp2_with fail
    refine (HB.out _).mono ?_
    rintro e w' ⟨rfl, rfl⟩
    go_wp2_with fail
    go_region_held3 (fun w' => w'.cell? ⟨b, 0, none⟩ = some (.int .u8 (vl k)) ∧ w'.cell? ⟨b, 1, none⟩ = some (.int .u8 (vl a)) ∧ w'.cell? ⟨b, 2, none⟩ = some (.int .u8 (vl c))) (first | exact ⟨c0, c1, c2⟩ | exact ⟨(World.cell?_of_block (Below.heap_alloc _ _ _ hbl)).trans c0, (World.cell?_of_block (Below.heap_alloc _ _ _ hbl)).trans c1, (World.cell?_of_block (Below.heap_alloc _ _ _ hbl)).trans c2⟩ | go_keep) (fail)
    have M1 := MidN.start w (m + 1) k a c 60
    have HMK0 := Lib.hid M1
    have d0 := (M1.hb.cell hbl).trans c0
    have d1 := (M1.hb.cell hbl).trans c1
    have d2 := (M1.hb.cell hbl).trans c2
    have d3 := (M1.hb.cell hbl).trans c3
    obtain ⟨q0, q1', q2', q3', qf, ql⟩ := M1.cells
    obtain ⟨W1, hW1⟩ : ∃ W1, (w.drewN (m + 1)).alloc (.cells #[.int .u8 (vl k), .int .u8 (vl a), .int .u8 (vl c), .slice none 0 0] 60) = W1 := ⟨_, rfl⟩
    rw [hW1] at HMK0 d0 d1 d2 d3 q0 q1' q2' q3' qf ql ⊢
    have hbl1 : b < W1.heap.size := by omega
    clear hW1 M1 c0 c1 c2 c3 e1 e2 HFC HB
    have hne : ¬ b = w.heap.size := by omega
    have hne2 : ¬ w.heap.size = b := by omega
    go_wp2_with fail
    go_region_held3 (fun w' => w'.cell? ⟨b, 1, none⟩ = some (.int .u8 (vl a)) ∧ w'.cell? ⟨b, 2, none⟩ = some (.int .u8 (vl c))) (first | exact ⟨d1, d2⟩ | go_keep)
      (first | (go_at_call 122; refine (HS1.out _).mono ?_; rintro e w' ⟨rfl, rfl⟩) | (go_at_call 122; refine (HS2.out _).mono ?_; rintro e w' ⟨rfl, rfl⟩))
    obtain ⟨Wk, hWk⟩ : ∃ Wk, Wk = ((W1.setCell ⟨w.heap.size, 1, none⟩ (.int .u8 (vl (swp a old name)))).setCell ⟨w.heap.size, 2, none⟩ (.int .u8 (vl (swp c old name)))).drew := ⟨_, rfl⟩
    have HMK : Hid (MidN w Wk k (swp a old name) (swp c old name) (.slice none 0 0)) := by rw [hWk]; exact (MidN.set2 (MidN.set1 HMK0.out _) _).below (pw_below_drewN (Below.refl _ _) 1)
    have HKL0 := kids_at (Wk := Wk) HMK.out.hb HK.out
    obtain ⟨KL, hKL⟩ : ∃ KL, T.kids = KL := ⟨_, rfl⟩
    rw [hKL] at d3 HKL0 HSZ HRES hkl0 ⊢
    have hkl : KL.length ≤ 2 := hkl0
    have HWK : Hid (w.heap.size + 1 ≤ Wk.heap.size) := HMK.out.cells.2.2.2.2.2
    have HKL := Lib.hid HKL0
    have HLEN : Hid (KL.length = KL.length) := rfl
    rw [← hWk]
    clear hKL HKL0 hWk HK HMK0 HL d0 d1 d2 d3 q0 q1' q2' q3' qf ql hbl1 hne hne2
    try go_wp2_with fail
    go_loopw [154] (fun i wr => ∃ j : Nat, j ≤ KL.length ∧ i = .int .i64 j ∧ ∃ us v, us.length = j ∧ Hid (renL n old name (KL.take j) = some us) ∧ Hid (MidN w wr k (swp a old name) (swp c old name) v) ∧ Hid (KidsAt wr Wk.heap.size (Okb w P) v us) ∧ Hid (∀ k, v.ownBlock = some k → Wk.heap.size ≤ k) ∧ Hid (Wk.heap.size ≤ wr.heap.size ∧ ∀ i, i < Wk.heap.size → i ≠ w.heap.size → wr.heap[i]? = Wk.heap[i]?)) (fun i _ => KL.length - (intOf i).toNat)
    case atStart => exact ⟨0, Nat.zero_le _, rfl, [], _, rfl, rfl, HMK.out, KidsAt.nil _ _ _, fun k hk => by simp [Value.ownBlock] at hk, Nat.le_refl _, fun _ _ _ => rfl⟩
    case round =>
      obtain ⟨j, hj, rfl, us, v, husl, hren, hmid, hkids, hown, hag⟩ := hrel
      by_cases hlt0 : j < KL.length
      · have hlt : j < KL.length := by have := HLEN.out; omega
        obtain ⟨r, x, hro, hrb, hrk, hlx⟩ := HKL.out j hlt
        cases hro
        have hrl := World.block_lt_of_cell? Wk _ hrk
        have e0 := (show wr.cell? ⟨_, j, none⟩ = _ from World.cell?_of_block (hag.out.2 _ hrl hrb)).trans hrk
        have HLX : Hid (LiesP wr (fun i => Okb w P i ∧ i < wr.heap.size ∧ ∀ k, v.ownBlock = some k → i ≠ k) KL[j] x) :=
          LiesP.mono (fun i hi hi2 => ⟨hi.1, hi2, fun k hk e => by have := hown.out k hk; have := hi.2; omega⟩) (LiesP.keep (w' := wr) (fun i hi hi2 => hag.out.2 i hi2 (okb_lt hi.1)) hlx)
        have HST : Hid (renL n old name (KL.take (j + 1)) = (renI n KL[j] old name).map fun u => us ++ [u]) := renL_step hlt hren.out
        have HS2 : Hid (KL[j].size ≤ n ∧ Wf isLet KL[j]) := HSZ.out _ (List.getElem_mem hlt)
        clear hrb hrk hlx hrl
        go_wp2_with fail
        refine (ih KL[j] old name wr _ x HS2.out.1 HS2.out.2 HLO.out.1 HLO.out.2 HLX.out).mono ?_
        rintro e w2 ⟨hb2, hpost⟩
        rcases hr : renI n KL[j] old name with _ | u
        · rw [hr] at hpost
          obtain ⟨p, rfl⟩ := hpost
          have HN : Hid (res = none) := by
            have h1 : renL n old name (KL.take (j + 1)) = none := by rw [HST.out, hr]; rfl
            rw [Hid, HRES.out, renL_none h1]; rfl
          have HB := Lib.hid (hmid.out.below hb2)
          clear hr hb2 e0
          go_wp2_with fail
          go_ret2
          rw [HN.out]
          exact ⟨HB.out.hb, _, rfl⟩
        · rw [hr] at hpost
          obtain ⟨x2, rfl, hlu⟩ := hpost
          have HR2 : Hid (renL n old name (KL.take (j + 1)) = some (us ++ [u])) := by rw [Hid, HST.out, hr]; rfl
          have hm2 := hmid.out.below hb2
          have hb3 : Below w2.heap.size w2 (w2.alloc (.cells #[.pointer (some ⟨x2, 0, none⟩)] 50)) := below_alloc (Below.refl _ _) _
          have hm3 := hm2.below hb3
          have hk3 : KidsAt (w2.alloc (.cells #[.pointer (some ⟨x2, 0, none⟩)] 50)) Wk.heap.size (Okb w P) v us := (hkids.out.keep hb2.size fun i _ hi => hb2.block i hi).keep hb3.size fun i _ hi => hb3.block i hi
          have hs2 := hb2.size
          have hs3 := hb3.size
          have hsk := hag.out.1
          have hwk := HWK.out
          have hu3 : LiesP (w2.alloc (.cells #[.pointer (some ⟨x2, 0, none⟩)] 50)) (fun i => Okb w P i ∧ i < (w2.alloc (.cells #[.pointer (some ⟨x2, 0, none⟩)] 50)).heap.size ∧ ∀ k, v.ownBlock = some k → i ≠ k) u x2 := by
            refine LiesP.mono (fun i hi hi2 => ?_) (LiesP.keep (fun i _ hi => hb3.block i hi) hlu)
            rcases hi with hi | hi
            · exact ⟨hi.1, hi2, hi.2.2⟩
            · exact ⟨.inr (by omega), hi2, fun k hk e => by have := (hkids.out.own hk).2; omega⟩
          obtain ⟨v4, w4, e1, e2, e3⟩ := run_append_kid (ty := 58) hk3 (by omega) (by omega) (heap_alloc_new w2 _) hu3
          obtain ⟨o4, l4, cap4, rfl⟩ := e2.slice
          have hown3 : ∀ k, v.ownBlock = some k → w.heap.size < k := fun k hk => by have := hown.out k hk; omega
          have hgb : Below (w.heap.size + 1) (w2.alloc (.cells #[.pointer (some ⟨x2, 0, none⟩)] 50)) w4 := ⟨e3.os, e3.tape, e3.output, e3.size, fun i hi => e3.block i (by omega) fun e => by have := hown3 i e.symm; omega⟩
          have hm4 := hm3.far hgb
          have HM5 := Lib.hid (hm4.set3 (.slice o4 l4 cap4))
          have hk5 := Lib.hid (e2.keep (w' := w4.setCell ⟨w.heap.size, 3, none⟩ (.slice o4 l4 cap4)) (by simp [World.setCell]) fun i hi _ => Below.heap_setCell _ _ _ _ (by
            rcases hi with hi | hi
            · simp; omega
            · simpa using okb_lt hi))
          have HOW : Hid (∀ k, (Value.slice o4 l4 cap4).ownBlock = some k → Wk.heap.size ≤ k) := fun k hk => (e2.own hk).1
          have HAG : Hid (Wk.heap.size ≤ (w4.setCell ⟨w.heap.size, 3, none⟩ (.slice o4 l4 cap4)).heap.size ∧ ∀ i, i < Wk.heap.size → i ≠ w.heap.size → (w4.setCell ⟨w.heap.size, 3, none⟩ (.slice o4 l4 cap4)).heap[i]? = Wk.heap[i]?) := by
            refine ⟨by have := e3.size; simp [World.setCell]; omega, fun i hi hne => ?_⟩
            refine (Below.heap_setCell _ _ _ _ (by simpa using hne)).trans ((e3.block i (by omega) fun e => by have := hown.out i e.symm; omega).trans ((hb3.block i (by omega)).trans ((hb2.block i (by omega)).trans (hag.out.2 i hi hne))))
          have HE1 := Lib.hid e1
          obtain ⟨q0, q1, q2, q3, qf, ql⟩ := hm2.cells
          obtain ⟨p0, p1, p2, p3, pf, pl⟩ := hm4.cells
          clear hr hb2 hb3 hm2 hm3 hk3 hs2 hs3 hsk hwk hu3 hlu e1 e2 e3 hown3 hgb hm4 e0
          go_wp2_with (at_builtin; refine Lib.wpList_append_run _ rfl (.tmp 171) (.tmp 173) _ _ rfl _ _ rfl rfl _ w4 HE1.out ?_)
          go_roundw
          case rel => exact ⟨j + 1, by omega, by go_num, us ++ [u], _, by simp [husl], HR2.out, HM5.out, hk5.out, HOW.out, HAG.out⟩
          case measure => simp [intOf]; omega
      · have HFI : Hid (res = some (mkT k (swp a old name) (swp c old name) us) ∧ LiesP wr (fun j => P j ∨ w.heap.size ≤ j) (mkT k (swp a old name) (swp c old name) us) w.heap.size ∧ Below w.heap.size w wr) := by
          have hke : j = KL.length := by have := HLEN.out; omega
          have h1 := hren.out
          rw [hke, List.take_length] at h1
          refine ⟨by rw [HRES.out, h1]; rfl, hmid.out.fin (hkids.out.lower HWK.out) (by omega), hmid.out.hb⟩
        go_wp2_with fail
        go_ret2
        rw [HFI.out.1]
        exact ⟨HFI.out.2.2, _, rfl, HFI.out.2.1⟩
  next =>
    replace c0 : w.cell? ⟨b, 0, none⟩ = some (.int .u8 (vl k)) := c0
    replace c1 : w.cell? ⟨b, 1, none⟩ = some (.int .u8 (vl a)) := c1
    replace c2 : w.cell? ⟨b, 2, none⟩ = some (.int .u8 (vl c)) := c2
    go_enter Try.func87, Try.ntmps87
    go_wp2_with fail
    refine HFC.out.mono ?_
    rintro e w' ⟨rfl, m, rfl⟩
    go_wp2_with fail
    refine (HB.out _).mono ?_
    rintro e w' ⟨rfl, rfl⟩
    go_wp2_with fail
    go_region_held3 (fun w' => w'.cell? ⟨b, 0, none⟩ = some (.int .u8 (vl k)) ∧ w'.cell? ⟨b, 1, none⟩ = some (.int .u8 (vl a)) ∧ w'.cell? ⟨b, 2, none⟩ = some (.int .u8 (vl c))) (first | exact ⟨c0, c1, c2⟩ | exact ⟨(World.cell?_of_block (Below.heap_alloc _ _ _ hbl)).trans c0, (World.cell?_of_block (Below.heap_alloc _ _ _ hbl)).trans c1, (World.cell?_of_block (Below.heap_alloc _ _ _ hbl)).trans c2⟩ | go_keep) (fail)
    have M1 := MidN.start w (m + 1) k a c 60
    have HMK0 := Lib.hid M1
    have d0 := (M1.hb.cell hbl).trans c0
    have d1 := (M1.hb.cell hbl).trans c1
    have d2 := (M1.hb.cell hbl).trans c2
    have d3 := (M1.hb.cell hbl).trans c3
    obtain ⟨q0, q1', q2', q3', qf, ql⟩ := M1.cells
    obtain ⟨W1, hW1⟩ : ∃ W1, (w.drewN (m + 1)).alloc (.cells #[.int .u8 (vl k), .int .u8 (vl a), .int .u8 (vl c), .slice none 0 0] 60) = W1 := ⟨_, rfl⟩
    rw [hW1] at HMK0 d0 d1 d2 d3 q0 q1' q2' q3' qf ql ⊢
    have hbl1 : b < W1.heap.size := by omega
    clear hW1 M1 c0 c1 c2 c3 e1 e2 HFC HB
    have hne : ¬ b = w.heap.size := by omega
    have hne2 : ¬ w.heap.size = b := by omega
    go_wp2_with fail
    go_region_held3 (fun w' => w'.cell? ⟨b, 1, none⟩ = some (.int .u8 (vl a)) ∧ w'.cell? ⟨b, 2, none⟩ = some (.int .u8 (vl c))) (first | exact ⟨d1, d2⟩ | go_keep)
      (first | (go_at_call 122; refine (HS1.out _).mono ?_; rintro e w' ⟨rfl, rfl⟩) | (go_at_call 122; refine (HS2.out _).mono ?_; rintro e w' ⟨rfl, rfl⟩))
    obtain ⟨Wk, hWk⟩ : ∃ Wk, Wk = ((W1.setCell ⟨w.heap.size, 1, none⟩ (.int .u8 (vl (swp a old name)))).setCell ⟨w.heap.size, 2, none⟩ (.int .u8 (vl (swp c old name)))).drew := ⟨_, rfl⟩
    have HMK : Hid (MidN w Wk k (swp a old name) (swp c old name) (.slice none 0 0)) := by rw [hWk]; exact (MidN.set2 (MidN.set1 HMK0.out _) _).below (pw_below_drewN (Below.refl _ _) 1)
    have HKL0 := kids_at (Wk := Wk) HMK.out.hb HK.out
    obtain ⟨KL, hKL⟩ : ∃ KL, T.kids = KL := ⟨_, rfl⟩
    rw [hKL] at d3 HKL0 HSZ HRES hkl0 ⊢
    have hkl : KL.length ≤ 2 := hkl0
    have HWK : Hid (w.heap.size + 1 ≤ Wk.heap.size) := HMK.out.cells.2.2.2.2.2
    have HKL := Lib.hid HKL0
    have HLEN : Hid (KL.length = KL.length) := rfl
    rw [← hWk]
    clear hKL HKL0 hWk HK HMK0 HL d0 d1 d2 d3 q0 q1' q2' q3' qf ql hbl1 hne hne2
    try go_wp2_with fail
    go_loopw [154] (fun i wr => ∃ j : Nat, j ≤ KL.length ∧ i = .int .i64 j ∧ ∃ us v, us.length = j ∧ Hid (renL n old name (KL.take j) = some us) ∧ Hid (MidN w wr k (swp a old name) (swp c old name) v) ∧ Hid (KidsAt wr Wk.heap.size (Okb w P) v us) ∧ Hid (∀ k, v.ownBlock = some k → Wk.heap.size ≤ k) ∧ Hid (Wk.heap.size ≤ wr.heap.size ∧ ∀ i, i < Wk.heap.size → i ≠ w.heap.size → wr.heap[i]? = Wk.heap[i]?)) (fun i _ => KL.length - (intOf i).toNat)
    case atStart => exact ⟨0, Nat.zero_le _, rfl, [], _, rfl, rfl, HMK.out, KidsAt.nil _ _ _, fun k hk => by simp [Value.ownBlock] at hk, Nat.le_refl _, fun _ _ _ => rfl⟩
    case round =>
      obtain ⟨j, hj, rfl, us, v, husl, hren, hmid, hkids, hown, hag⟩ := hrel
      by_cases hlt0 : j < KL.length
      · have hlt : j < KL.length := by have := HLEN.out; omega
        obtain ⟨r, x, hro, hrb, hrk, hlx⟩ := HKL.out j hlt
        cases hro
        have hrl := World.block_lt_of_cell? Wk _ hrk
        have e0 := (show wr.cell? ⟨_, j, none⟩ = _ from World.cell?_of_block (hag.out.2 _ hrl hrb)).trans hrk
        have HLX : Hid (LiesP wr (fun i => Okb w P i ∧ i < wr.heap.size ∧ ∀ k, v.ownBlock = some k → i ≠ k) KL[j] x) :=
          LiesP.mono (fun i hi hi2 => ⟨hi.1, hi2, fun k hk e => by have := hown.out k hk; have := hi.2; omega⟩) (LiesP.keep (w' := wr) (fun i hi hi2 => hag.out.2 i hi2 (okb_lt hi.1)) hlx)
        have HST : Hid (renL n old name (KL.take (j + 1)) = (renI n KL[j] old name).map fun u => us ++ [u]) := renL_step hlt hren.out
        have HS2 : Hid (KL[j].size ≤ n ∧ Wf isLet KL[j]) := HSZ.out _ (List.getElem_mem hlt)
        clear hrb hrk hlx hrl
        go_wp2_with fail
        refine (ih KL[j] old name wr _ x HS2.out.1 HS2.out.2 HLO.out.1 HLO.out.2 HLX.out).mono ?_
        rintro e w2 ⟨hb2, hpost⟩
        rcases hr : renI n KL[j] old name with _ | u
        · rw [hr] at hpost
          obtain ⟨p, rfl⟩ := hpost
          have HN : Hid (res = none) := by
            have h1 : renL n old name (KL.take (j + 1)) = none := by rw [HST.out, hr]; rfl
            rw [Hid, HRES.out, renL_none h1]; rfl
          have HB := Lib.hid (hmid.out.below hb2)
          clear hr hb2 e0
          go_wp2_with fail
          go_ret2
          rw [HN.out]
          exact ⟨HB.out.hb, _, rfl⟩
        · rw [hr] at hpost
          obtain ⟨x2, rfl, hlu⟩ := hpost
          have HR2 : Hid (renL n old name (KL.take (j + 1)) = some (us ++ [u])) := by rw [Hid, HST.out, hr]; rfl
          have hm2 := hmid.out.below hb2
          have hb3 : Below w2.heap.size w2 (w2.alloc (.cells #[.pointer (some ⟨x2, 0, none⟩)] 50)) := below_alloc (Below.refl _ _) _
          have hm3 := hm2.below hb3
          have hk3 : KidsAt (w2.alloc (.cells #[.pointer (some ⟨x2, 0, none⟩)] 50)) Wk.heap.size (Okb w P) v us := (hkids.out.keep hb2.size fun i _ hi => hb2.block i hi).keep hb3.size fun i _ hi => hb3.block i hi
          have hs2 := hb2.size
          have hs3 := hb3.size
          have hsk := hag.out.1
          have hwk := HWK.out
          have hu3 : LiesP (w2.alloc (.cells #[.pointer (some ⟨x2, 0, none⟩)] 50)) (fun i => Okb w P i ∧ i < (w2.alloc (.cells #[.pointer (some ⟨x2, 0, none⟩)] 50)).heap.size ∧ ∀ k, v.ownBlock = some k → i ≠ k) u x2 := by
            refine LiesP.mono (fun i hi hi2 => ?_) (LiesP.keep (fun i _ hi => hb3.block i hi) hlu)
            rcases hi with hi | hi
            · exact ⟨hi.1, hi2, hi.2.2⟩
            · exact ⟨.inr (by omega), hi2, fun k hk e => by have := (hkids.out.own hk).2; omega⟩
          obtain ⟨v4, w4, e1, e2, e3⟩ := run_append_kid (ty := 58) hk3 (by omega) (by omega) (heap_alloc_new w2 _) hu3
          obtain ⟨o4, l4, cap4, rfl⟩ := e2.slice
          have hown3 : ∀ k, v.ownBlock = some k → w.heap.size < k := fun k hk => by have := hown.out k hk; omega
          have hgb : Below (w.heap.size + 1) (w2.alloc (.cells #[.pointer (some ⟨x2, 0, none⟩)] 50)) w4 := ⟨e3.os, e3.tape, e3.output, e3.size, fun i hi => e3.block i (by omega) fun e => by have := hown3 i e.symm; omega⟩
          have hm4 := hm3.far hgb
          have HM5 := Lib.hid (hm4.set3 (.slice o4 l4 cap4))
          have hk5 := Lib.hid (e2.keep (w' := w4.setCell ⟨w.heap.size, 3, none⟩ (.slice o4 l4 cap4)) (by simp [World.setCell]) fun i hi _ => Below.heap_setCell _ _ _ _ (by
            rcases hi with hi | hi
            · simp; omega
            · simpa using okb_lt hi))
          have HOW : Hid (∀ k, (Value.slice o4 l4 cap4).ownBlock = some k → Wk.heap.size ≤ k) := fun k hk => (e2.own hk).1
          have HAG : Hid (Wk.heap.size ≤ (w4.setCell ⟨w.heap.size, 3, none⟩ (.slice o4 l4 cap4)).heap.size ∧ ∀ i, i < Wk.heap.size → i ≠ w.heap.size → (w4.setCell ⟨w.heap.size, 3, none⟩ (.slice o4 l4 cap4)).heap[i]? = Wk.heap[i]?) := by
            refine ⟨by have := e3.size; simp [World.setCell]; omega, fun i hi hne => ?_⟩
            refine (Below.heap_setCell _ _ _ _ (by simpa using hne)).trans ((e3.block i (by omega) fun e => by have := hown.out i e.symm; omega).trans ((hb3.block i (by omega)).trans ((hb2.block i (by omega)).trans (hag.out.2 i hi hne))))
          have HE1 := Lib.hid e1
          obtain ⟨q0, q1, q2, q3, qf, ql⟩ := hm2.cells
          obtain ⟨p0, p1, p2, p3, pf, pl⟩ := hm4.cells
          clear hr hb2 hb3 hm2 hm3 hk3 hs2 hs3 hsk hwk hu3 hlu e1 e2 e3 hown3 hgb hm4 e0
          go_wp2_with (at_builtin; refine Lib.wpList_append_run _ rfl (.tmp 171) (.tmp 173) _ _ rfl _ _ rfl rfl _ w4 HE1.out ?_)
          go_roundw
          case rel => exact ⟨j + 1, by omega, by go_num, us ++ [u], _, by simp [husl], HR2.out, HM5.out, hk5.out, HOW.out, HAG.out⟩
          case measure => simp [intOf]; omega
      · have HFI : Hid (res = some (mkT k (swp a old name) (swp c old name) us) ∧ LiesP wr (fun j => P j ∨ w.heap.size ≤ j) (mkT k (swp a old name) (swp c old name) us) w.heap.size ∧ Below w.heap.size w wr) := by
          have hke : j = KL.length := by have := HLEN.out; omega
          have h1 := hren.out
          rw [hke, List.take_length] at h1
          refine ⟨by rw [HRES.out, h1]; rfl, hmid.out.fin (hkids.out.lower HWK.out) (by omega), hmid.out.hb⟩
        go_wp2_with fail
        go_ret2
        rw [HFI.out.1]
        exact ⟨HFI.out.2.2, _, rfl, HFI.out.2.1⟩

end Go.Proofs.Ytfcadppidgkoaaa
