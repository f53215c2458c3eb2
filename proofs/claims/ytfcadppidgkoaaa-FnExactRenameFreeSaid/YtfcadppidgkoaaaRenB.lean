/- Several texts in one.
   The walk of rename: the kinds that bind.
   The walk of rename: the kinds that bind. -/
import Derived.Test.YtfcadppidgkoaaaRenW
namespace Go.Proofs.Ytfcadppidgkoaaa
open Go.RowKit Go.Proofs.YtfcadppidgkoaaaW.PrintWords Go.Proofs.YtfcadppidgkoaaaW.PrintMore
set_option linter.unusedVariables false
set_option linter.unusedSimpArgs false

set_option maxHeartbeats 40000000 in
set_option maxRecDepth 100000 in
theorem ren_bindQ (n : Nat) (ih : RenUpto n) (hn100 : n ≤ 99) (k a c : UInt8) (t : Tm) (old name : UInt8) (w : World) (P : Nat → Prop) (b : Nat) (hTs : t.size ≤ n) (hw : Wf isLet (.un k a c t)) (ho : isLet old = true) (hn : isLet name = true) (hl : LiesP w P (.un k a c t) b)
    (h1 : old ≠ name) (hf : (Tm.un k a c t).fr old = true) (q33 : (vl k == 33) = false) (q61 : (vl k == 61) = false) (A : UInt8) (q3 : (vl k == 63) = true) (hA : A = swp a old name) (res : Option Tm)
    (hres : res = if c = old then some (.un k A c t) else if c = name ∧ t.fr old = true then (freshOf (tkS t old name)).bind fun c2 => (renI n t name c2).bind fun t1 => (renI n t1 old name).map (.un k A c2 ·) else (renI n t old name).map (.un k A c ·)) :
    Calls Try.prog 87 #[.pointer (some ⟨b, 0, none⟩), .int .u8 (vl old), .int .u8 (vl name)] w (RenPost w P res) := by
  have hsz : (Tm.un k a c t).size ≤ 100 := by simp only [Tm.size]; omega
  have hl' := hl
  obtain ⟨_, r, cap, x, hr, hnode, hkid, hlx⟩ := hl'
  obtain ⟨c0, c1, c2, c3⟩ := hnode.cells
  have HX : Hid (P r ∧ Kid w r 0 x ∧ LiesP w P t x) := ⟨hr, hkid, hlx⟩
  have HSW : Hid (t.size ≤ n ∧ Wf isLet t) := ⟨hTs, hw.2⟩
  have HRES0 := Lib.hid hres
  have HFT : Hid (∀ W, Below w.heap.size w W → _) := fun W (hW : Below w.heap.size w W) => free_any 100 t W 0 x (by omega) (by omega) hw.2 (LiesP.keep (w' := W) (fun j _ hj2 => hW.block j hj2) hlx).lies
  have hr0 := hkid.cell
  have hrl := hkid.lt
  subst hA
  have HL := Lib.hid hl
  have HFC := Lib.hid (free_any 100 _ w 0 b (by omega) (by omega) hw hl.lies)
  have e1 : (vl old == vl name) = false := by rw [beq_eq_false_iff_ne]; exact fun e => h1 (vl_inj.mp e)
  have e2 := is_free ho hf
  have HB := Lib.hid (fun W => bit_calls ho W)
  have hbl := hl.lt
  have HLO : Hid (isLet old = true ∧ isLet name = true) := ⟨ho, hn⟩
  have HB2 := Lib.hid (fun W => bit_calls ho W)
  have HB3 := Lib.hid (fun W => bit_calls hn W)
  have HS1 := Lib.hid (fun W => swap_calls a old name W)
  clear hl hw h1 hf hres ho hn hr hnode hkid hlx hTs
  replace c0 : w.cell? ⟨b, 0, none⟩ = some (.int .u8 (vl k)) := c0
  replace c1 : w.cell? ⟨b, 1, none⟩ = some (.int .u8 (vl a)) := c1
  replace c2 : w.cell? ⟨b, 2, none⟩ = some (.int .u8 (vl c)) := c2
  go_enter Try.func87, Try.ntmps87
  go_wp2_with fail
  refine HFC.out.mono ?_
  rintro e w' ⟨rfl, m, rfl⟩
  go_wp2_with fail
  refine (HB.out _).mono ?_
  rintro e w' ⟨rfl, rfl⟩
  go_wp2_with fail
  go_region_held3 (fun w' => w'.cell? ⟨b, 0, none⟩ = some (.int .u8 (vl k)) ∧ w'.cell? ⟨b, 1, none⟩ = some (.int .u8 (vl a)) ∧ w'.cell? ⟨b, 2, none⟩ = some (.int .u8 (vl c))) (first | exact ⟨c0, c1, c2⟩ | exact ⟨(World.cell?_of_block (Below.heap_alloc _ _ _ hbl)).trans c0, (World.cell?_of_block (Below.heap_alloc _ _ _ hbl)).trans c1, (World.cell?_of_block (Below.heap_alloc _ _ _ hbl)).trans c2⟩ | go_keep) (fail)
  have e0 := (MidN.start w (m + 1) k a c 60).hb.cell hrl |>.trans hr0
  have M1 := MidN.start w (m + 1) k a c 60
  have HMK0 := Lib.hid M1
  have d0 := (M1.hb.cell hbl).trans c0
  have d1 := (M1.hb.cell hbl).trans c1
  have d2 := (M1.hb.cell hbl).trans c2
  have d3 := (M1.hb.cell hbl).trans c3
  obtain ⟨q0, q1', q2', q3', qf, ql⟩ := M1.cells
  obtain ⟨W1, hW1⟩ : ∃ W1, (w.drewN (m + 1)).alloc (.cells #[.int .u8 (vl k), .int .u8 (vl a), .int .u8 (vl c), .slice none 0 0] 60) = W1 := ⟨_, rfl⟩
  rw [hW1] at HMK0 d0 d1 d2 d3 e0 q0 q1' q2' q3' qf ql ⊢
  have hbl1 : b < W1.heap.size := by omega
  clear hW1 M1 c0 c1 c2 c3 e1 e2 HFC HB
  have HLX : Hid (∀ W, Below w.heap.size w W → LiesP W (fun i => Okb w P i ∧ i < W1.heap.size) t x) := fun W hW => by
    have h1 := LiesP.mono (Q := fun j => P j ∧ j < w.heap.size) (fun j hj hj2 => ⟨hj, hj2⟩) HX.out.2.2
    have h2 := LiesP.keep (w' := W) (fun j _ hj2 => hW.block j hj2) h1
    exact LiesP.mono (fun j hj hj2 => ⟨.inl hj, by omega⟩) h2
  have hne : ¬ b = w.heap.size := by omega
  have hne2 : ¬ w.heap.size = b := by omega
  clear hr0 hrl HL
  by_cases hco : c = old
  · have f1 : (vl c == vl old) = true := by rw [hco]; simp
    have HR2 : Hid (res = some (.un k (swp a old name) c t)) := by rw [Hid, HRES0.out, if_pos hco]
    clear hco
    go_wp2_with fail
    refine (HS1.out _).mono ?_
    rintro e w' ⟨rfl, rfl⟩
    go_wp2_with fail
    go_ret2
    rw [HR2.out]
    have M := MidN.set3 (MidN.set1 HMK0.out (swp a old name)) (.slice (some ⟨r, 0, none⟩) 1 cap)
    exact ⟨M.hb, _, rfl, MidN.share M HX.out.1 HX.out.2.1 HX.out.2.2⟩
  have f1 : (vl c == vl old) = false := by rw [beq_eq_false_iff_ne]; exact fun e => hco (vl_inj.mp e)
  by_cases hcn : c = name
  rotate_left
  · have f2 : (vl c == vl name) = false := by rw [beq_eq_false_iff_ne]; exact fun e => hcn (vl_inj.mp e)
    have HRC : Hid (res = (renI n t old name).map (.un k (swp a old name) c ·)) := by rw [Hid, HRES0.out, if_neg hco, if_neg (fun h => hcn h.1)]
    clear hco hcn
    go_wp2_with fail
    refine (HS1.out _).mono ?_
    rintro e w' ⟨rfl, rfl⟩
    go_wp2_with fail
    try rw [HF3.out]
    try clear f3
    obtain ⟨Wk, hWk⟩ : ∃ Wk, Wk = (W1.setCell ⟨w.heap.size, 1, none⟩ (.int .u8 (vl (swp a old name)))) := ⟨_, rfl⟩
    have HMK : Hid (MidN w Wk k (swp a old name) c (.slice none 0 0)) := by rw [hWk]; exact (MidN.set1 HMK0.out (swp a old name))
    have HKL0 := kid_one HMK.out.hb HX.out.1 HX.out.2.1 HX.out.2.2
    obtain ⟨KL, hKL⟩ : ∃ KL, [t] = KL := ⟨_, rfl⟩
    rw [hKL] at HKL0
    have hkl : KL.length ≤ 2 := by rw [← hKL]; simp
    have HLEN : Hid (1 = KL.length) := by rw [← hKL]; rfl
    have HSZ : Hid (∀ u, u ∈ KL → u.size ≤ n ∧ Wf isLet u) := by rw [← hKL]; intro u hu; simp only [List.mem_singleton] at hu; subst hu; exact HSW.out
    have HRES : Hid (res = (renL n old name KL).map (mkT k (swp a old name) c)) := by rw [← hKL, Hid, HRC.out]; simp only [renL]; cases renI n t old name <;> rfl
    have HWK : Hid (w.heap.size + 1 ≤ Wk.heap.size) := HMK.out.cells.2.2.2.2.2
    have HKL := Lib.hid HKL0
    rw [← hWk]
    clear hKL HKL0 hWk HX HMK0 d0 d1 d2 d3 q0 q1' q2' q3' qf ql hbl1 hne hne2 HRC e0 f1 f2
    try go_wp2_with fail
    go_loopw [154] (fun i wr => ∃ j : Nat, j ≤ 1 ∧ i = .int .i64 j ∧ ∃ us v, us.length = j ∧ Hid (renL n old name (KL.take j) = some us) ∧ Hid (MidN w wr k (swp a old name) c v) ∧ Hid (KidsAt wr Wk.heap.size (Okb w P) v us) ∧ Hid (∀ k, v.ownBlock = some k → Wk.heap.size ≤ k) ∧ Hid (Wk.heap.size ≤ wr.heap.size ∧ ∀ i, i < Wk.heap.size → i ≠ w.heap.size → wr.heap[i]? = Wk.heap[i]?)) (fun i _ => 1 - (intOf i).toNat)
    case atStart => exact ⟨0, Nat.zero_le _, rfl, [], _, rfl, rfl, HMK.out, KidsAt.nil _ _ _, fun k hk => by simp [Value.ownBlock] at hk, Nat.le_refl _, fun _ _ _ => rfl⟩
    case round =>
      obtain ⟨j, hj, rfl, us, v, husl, hren, hmid, hkids, hown, hag⟩ := hrel
      by_cases hlt0 : j < 1
      · have hlt : j < KL.length := by have := HLEN.out; omega
        obtain ⟨r, x, hro, hrb, hrk, hlx⟩ := HKL.out j hlt
        cases hro
        have hrl := World.block_lt_of_cell? Wk _ hrk
        have e0 := (show wr.cell? ⟨_, j, none⟩ = _ from World.cell?_of_block (hag.out.2 _ hrl hrb)).trans hrk
        have HLX : Hid (LiesP wr (fun i => Okb w P i ∧ i < wr.heap.size ∧ ∀ k, v.ownBlock = some k → i ≠ k) KL[j] x) :=
          LiesP.mono (fun i hi hi2 => ⟨hi.1, hi2, fun k hk e => by have := hown.out k hk; have := hi.2; omega⟩) (LiesP.keep (w' := wr) (fun i hi hi2 => hag.out.2 i hi2 (okb_lt hi.1)) hlx)
        have HST : Hid (renL n old name (KL.take (j + 1)) = (renI n KL[j] old name).map fun u => us ++ [u]) := renL_step hlt hren.out
        have HS2 : Hid (KL[j].size ≤ n ∧ Wf isLet KL[j]) := HSZ.out _ (List.getElem_mem hlt)
        clear hrb hrk hlx hrl
        go_wp2_with fail
        refine (ih KL[j] old name wr _ x HS2.out.1 HS2.out.2 HLO.out.1 HLO.out.2 HLX.out).mono ?_
        rintro e w2 ⟨hb2, hpost⟩
        rcases hr : renI n KL[j] old name with _ | u
        · rw [hr] at hpost
          obtain ⟨p, rfl⟩ := hpost
          have HN : Hid (res = none) := by
            have h1 : renL n old name (KL.take (j + 1)) = none := by rw [HST.out, hr]; rfl
            rw [Hid, HRES.out, renL_none h1]; rfl
          have HB := Lib.hid (hmid.out.below hb2)
          clear hr hb2 e0
          go_wp2_with fail
          go_ret2
          rw [HN.out]
          exact ⟨HB.out.hb, _, rfl⟩
        · rw [hr] at hpost
          obtain ⟨x2, rfl, hlu⟩ := hpost
          have HR2 : Hid (renL n old name (KL.take (j + 1)) = some (us ++ [u])) := by rw [Hid, HST.out, hr]; rfl
          have hm2 := hmid.out.below hb2
          have hb3 : Below w2.heap.size w2 (w2.alloc (.cells #[.pointer (some ⟨x2, 0, none⟩)] 50)) := below_alloc (Below.refl _ _) _
          have hm3 := hm2.below hb3
          have hk3 : KidsAt (w2.alloc (.cells #[.pointer (some ⟨x2, 0, none⟩)] 50)) Wk.heap.size (Okb w P) v us := (hkids.out.keep hb2.size fun i _ hi => hb2.block i hi).keep hb3.size fun i _ hi => hb3.block i hi
          have hs2 := hb2.size
          have hs3 := hb3.size
          have hsk := hag.out.1
          have hwk := HWK.out
          have hu3 : LiesP (w2.alloc (.cells #[.pointer (some ⟨x2, 0, none⟩)] 50)) (fun i => Okb w P i ∧ i < (w2.alloc (.cells #[.pointer (some ⟨x2, 0, none⟩)] 50)).heap.size ∧ ∀ k, v.ownBlock = some k → i ≠ k) u x2 := by
            refine LiesP.mono (fun i hi hi2 => ?_) (LiesP.keep (fun i _ hi => hb3.block i hi) hlu)
            rcases hi with hi | hi
            · exact ⟨hi.1, hi2, hi.2.2⟩
            · exact ⟨.inr (by omega), hi2, fun k hk e => by have := (hkids.out.own hk).2; omega⟩
          obtain ⟨v4, w4, e1, e2, e3⟩ := run_append_kid (ty := 58) hk3 (by omega) (by omega) (heap_alloc_new w2 _) hu3
          obtain ⟨o4, l4, cap4, rfl⟩ := e2.slice
          have hown3 : ∀ k, v.ownBlock = some k → w.heap.size < k := fun k hk => by have := hown.out k hk; omega
          have hgb : Below (w.heap.size + 1) (w2.alloc (.cells #[.pointer (some ⟨x2, 0, none⟩)] 50)) w4 := ⟨e3.os, e3.tape, e3.output, e3.size, fun i hi => e3.block i (by omega) fun e => by have := hown3 i e.symm; omega⟩
          have hm4 := hm3.far hgb
          have HM5 := Lib.hid (hm4.set3 (.slice o4 l4 cap4))
          have hk5 := Lib.hid (e2.keep (w' := w4.setCell ⟨w.heap.size, 3, none⟩ (.slice o4 l4 cap4)) (by simp [World.setCell]) fun i hi _ => Below.heap_setCell _ _ _ _ (by
            rcases hi with hi | hi
            · simp; omega
            · simpa using okb_lt hi))
          have HOW : Hid (∀ k, (Value.slice o4 l4 cap4).ownBlock = some k → Wk.heap.size ≤ k) := fun k hk => (e2.own hk).1
          have HAG : Hid (Wk.heap.size ≤ (w4.setCell ⟨w.heap.size, 3, none⟩ (.slice o4 l4 cap4)).heap.size ∧ ∀ i, i < Wk.heap.size → i ≠ w.heap.size → (w4.setCell ⟨w.heap.size, 3, none⟩ (.slice o4 l4 cap4)).heap[i]? = Wk.heap[i]?) := by
            refine ⟨by have := e3.size; simp [World.setCell]; omega, fun i hi hne => ?_⟩
            refine (Below.heap_setCell _ _ _ _ (by simpa using hne)).trans ((e3.block i (by omega) fun e => by have := hown.out i e.symm; omega).trans ((hb3.block i (by omega)).trans ((hb2.block i (by omega)).trans (hag.out.2 i hi hne))))
          have HE1 := Lib.hid e1
          obtain ⟨q0, q1, q2, q3, qf, ql⟩ := hm2.cells
          obtain ⟨p0, p1, p2, p3, pf, pl⟩ := hm4.cells
          clear hr hb2 hb3 hm2 hm3 hk3 hs2 hs3 hsk hwk hu3 hlu e1 e2 e3 hown3 hgb hm4 e0
          go_wp2_with (at_builtin; refine Lib.wpList_append_run _ rfl (.tmp 171) (.tmp 173) _ _ rfl _ _ rfl rfl _ w4 HE1.out ?_)
          go_roundw
          case rel => exact ⟨j + 1, by omega, by go_num, us ++ [u], _, by simp [husl], HR2.out, HM5.out, hk5.out, HOW.out, HAG.out⟩
          case measure => simp [intOf]; omega
      · have HFI : Hid (res = some (mkT k (swp a old name) c us) ∧ LiesP wr (fun j => P j ∨ w.heap.size ≤ j) (mkT k (swp a old name) c us) w.heap.size ∧ Below w.heap.size w wr) := by
          have hke : j = KL.length := by have := HLEN.out; omega
          have h1 := hren.out
          rw [hke, List.take_length] at h1
          refine ⟨by rw [HRES.out, h1]; rfl, hmid.out.fin (hkids.out.lower HWK.out) (by omega), hmid.out.hb⟩
        go_wp2_with fail
        go_ret2
        rw [HFI.out.1]
        exact ⟨HFI.out.2.2, _, rfl, HFI.out.2.1⟩
  have f2 : (vl c == vl name) = true := by rw [hcn]; simp
  by_cases hft : t.fr old = true
  rotate_left
  · have f3 : (Go.bits .and .u32 (setI t.fr) (setI (eqS old)) != 0) = false := by rw [bne, not_free HLO.out.1 (Bool.eq_false_iff.mpr hft)]; rfl
    have HF3 := Lib.hid f3
    have HRC : Hid (res = (renI n t old name).map (.un k (swp a old name) c ·)) := by rw [Hid, HRES0.out, if_neg hco, if_neg (fun h => hft h.2)]
    clear hco hcn hft
    go_wp2_with fail
    refine (HS1.out _).mono ?_
    rintro e w' ⟨rfl, rfl⟩
    go_wp2_with fail
    refine (HFT.out _ (MidN.hb (MidN.set1 HMK0.out (swp a old name)))).mono ?_
    rintro e w' ⟨rfl, m2, rfl⟩
    go_wp2_with fail
    refine (HB2.out _).mono ?_
    rintro e w' ⟨rfl, rfl⟩
    go_wp2_with fail
    try rw [HF3.out]
    try clear f3
    obtain ⟨Wk, hWk⟩ : ∃ Wk, Wk = ((W1.setCell ⟨w.heap.size, 1, none⟩ (.int .u8 (vl (swp a old name)))).drewN m2) := ⟨_, rfl⟩
    have HMK : Hid (MidN w Wk k (swp a old name) c (.slice none 0 0)) := by rw [hWk]; exact (MidN.below (MidN.set1 HMK0.out (swp a old name)) (pw_below_drewN (Below.refl _ _) m2))
    have HKL0 := kid_one HMK.out.hb HX.out.1 HX.out.2.1 HX.out.2.2
    obtain ⟨KL, hKL⟩ : ∃ KL, [t] = KL := ⟨_, rfl⟩
    rw [hKL] at HKL0
    have hkl : KL.length ≤ 2 := by rw [← hKL]; simp
    have HLEN : Hid (1 = KL.length) := by rw [← hKL]; rfl
    have HSZ : Hid (∀ u, u ∈ KL → u.size ≤ n ∧ Wf isLet u) := by rw [← hKL]; intro u hu; simp only [List.mem_singleton] at hu; subst hu; exact HSW.out
    have HRES : Hid (res = (renL n old name KL).map (mkT k (swp a old name) c)) := by rw [← hKL, Hid, HRC.out]; simp only [renL]; cases renI n t old name <;> rfl
    have HWK : Hid (w.heap.size + 1 ≤ Wk.heap.size) := HMK.out.cells.2.2.2.2.2
    have HKL := Lib.hid HKL0
    rw [← hWk]
    clear hKL HKL0 hWk HX HMK0 d0 d1 d2 d3 q0 q1' q2' q3' qf ql hbl1 hne hne2 HRC e0 f1 f2
    try go_wp2_with fail
    go_loopw [154] (fun i wr => ∃ j : Nat, j ≤ 1 ∧ i = .int .i64 j ∧ ∃ us v, us.length = j ∧ Hid (renL n old name (KL.take j) = some us) ∧ Hid (MidN w wr k (swp a old name) c v) ∧ Hid (KidsAt wr Wk.heap.size (Okb w P) v us) ∧ Hid (∀ k, v.ownBlock = some k → Wk.heap.size ≤ k) ∧ Hid (Wk.heap.size ≤ wr.heap.size ∧ ∀ i, i < Wk.heap.size → i ≠ w.heap.size → wr.heap[i]? = Wk.heap[i]?)) (fun i _ => 1 - (intOf i).toNat)
    case atStart => exact ⟨0, Nat.zero_le _, rfl, [], _, rfl, rfl, HMK.out, KidsAt.nil _ _ _, fun k hk => by simp [Value.ownBlock] at hk, Nat.le_refl _, fun _ _ _ => rfl⟩
    case round =>
      obtain ⟨j, hj, rfl, us, v, husl, hren, hmid, hkids, hown, hag⟩ := hrel
      by_cases hlt0 : j < 1
      · have hlt : j < KL.length := by have := HLEN.out; omega
        obtain ⟨r, x, hro, hrb, hrk, hlx⟩ := HKL.out j hlt
        cases hro
        have hrl := World.block_lt_of_cell? Wk _ hrk
        have e0 := (show wr.cell? ⟨_, j, none⟩ = _ from World.cell?_of_block (hag.out.2 _ hrl hrb)).trans hrk
        have HLX : Hid (LiesP wr (fun i => Okb w P i ∧ i < wr.heap.size ∧ ∀ k, v.ownBlock = some k → i ≠ k) KL[j] x) :=
          LiesP.mono (fun i hi hi2 => ⟨hi.1, hi2, fun k hk e => by have := hown.out k hk; have := hi.2; omega⟩) (LiesP.keep (w' := wr) (fun i hi hi2 => hag.out.2 i hi2 (okb_lt hi.1)) hlx)
        have HST : Hid (renL n old name (KL.take (j + 1)) = (renI n KL[j] old name).map fun u => us ++ [u]) := renL_step hlt hren.out
        have HS2 : Hid (KL[j].size ≤ n ∧ Wf isLet KL[j]) := HSZ.out _ (List.getElem_mem hlt)
        clear hrb hrk hlx hrl
        go_wp2_with fail
        refine (ih KL[j] old name wr _ x HS2.out.1 HS2.out.2 HLO.out.1 HLO.out.2 HLX.out).mono ?_
        rintro e w2 ⟨hb2, hpost⟩
        rcases hr : renI n KL[j] old name with _ | u
        · rw [hr] at hpost
          obtain ⟨p, rfl⟩ := hpost
          have HN : Hid (res = none) := by
            have h1 : renL n old name (KL.take (j + 1)) = none := by rw [HST.out, hr]; rfl
            rw [Hid, HRES.out, renL_none h1]; rfl
          have HB := Lib.hid (hmid.out.below hb2)
          clear hr hb2 e0
          go_wp2_with fail
          go_ret2
          rw [HN.out]
          exact ⟨HB.out.hb, _, rfl⟩
        · rw [hr] at hpost
          obtain ⟨x2, rfl, hlu⟩ := hpost
          have HR2 : Hid (renL n old name (KL.take (j + 1)) = some (us ++ [u])) := by rw [Hid, HST.out, hr]; rfl
          have hm2 := hmid.out.below hb2
          have hb3 : Below w2.heap.size w2 (w2.alloc (.cells #[.pointer (some ⟨x2, 0, none⟩)] 50)) := below_alloc (Below.refl _ _) _
          have hm3 := hm2.below hb3
          have hk3 : KidsAt (w2.alloc (.cells #[.pointer (some ⟨x2, 0, none⟩)] 50)) Wk.heap.size (Okb w P) v us := (hkids.out.keep hb2.size fun i _ hi => hb2.block i hi).keep hb3.size fun i _ hi => hb3.block i hi
          have hs2 := hb2.size
          have hs3 := hb3.size
          have hsk := hag.out.1
          have hwk := HWK.out
          have hu3 : LiesP (w2.alloc (.cells #[.pointer (some ⟨x2, 0, none⟩)] 50)) (fun i => Okb w P i ∧ i < (w2.alloc (.cells #[.pointer (some ⟨x2, 0, none⟩)] 50)).heap.size ∧ ∀ k, v.ownBlock = some k → i ≠ k) u x2 := by
            refine LiesP.mono (fun i hi hi2 => ?_) (LiesP.keep (fun i _ hi => hb3.block i hi) hlu)
            rcases hi with hi | hi
            · exact ⟨hi.1, hi2, hi.2.2⟩
            · exact ⟨.inr (by omega), hi2, fun k hk e => by have := (hkids.out.own hk).2; omega⟩
          obtain ⟨v4, w4, e1, e2, e3⟩ := run_append_kid (ty := 58) hk3 (by omega) (by omega) (heap_alloc_new w2 _) hu3
          obtain ⟨o4, l4, cap4, rfl⟩ := e2.slice
          have hown3 : ∀ k, v.ownBlock = some k → w.heap.size < k := fun k hk => by have := hown.out k hk; omega
          have hgb : Below (w.heap.size + 1) (w2.alloc (.cells #[.pointer (some ⟨x2, 0, none⟩)] 50)) w4 := ⟨e3.os, e3.tape, e3.output, e3.size, fun i hi => e3.block i (by omega) fun e => by have := hown3 i e.symm; omega⟩
          have hm4 := hm3.far hgb
          have HM5 := Lib.hid (hm4.set3 (.slice o4 l4 cap4))
          have hk5 := Lib.hid (e2.keep (w' := w4.setCell ⟨w.heap.size, 3, none⟩ (.slice o4 l4 cap4)) (by simp [World.setCell]) fun i hi _ => Below.heap_setCell _ _ _ _ (by
            rcases hi with hi | hi
            · simp; omega
            · simpa using okb_lt hi))
          have HOW : Hid (∀ k, (Value.slice o4 l4 cap4).ownBlock = some k → Wk.heap.size ≤ k) := fun k hk => (e2.own hk).1
          have HAG : Hid (Wk.heap.size ≤ (w4.setCell ⟨w.heap.size, 3, none⟩ (.slice o4 l4 cap4)).heap.size ∧ ∀ i, i < Wk.heap.size → i ≠ w.heap.size → (w4.setCell ⟨w.heap.size, 3, none⟩ (.slice o4 l4 cap4)).heap[i]? = Wk.heap[i]?) := by
            refine ⟨by have := e3.size; simp [World.setCell]; omega, fun i hi hne => ?_⟩
            refine (Below.heap_setCell _ _ _ _ (by simpa using hne)).trans ((e3.block i (by omega) fun e => by have := hown.out i e.symm; omega).trans ((hb3.block i (by omega)).trans ((hb2.block i (by omega)).trans (hag.out.2 i hi hne))))
          have HE1 := Lib.hid e1
          obtain ⟨q0, q1, q2, q3, qf, ql⟩ := hm2.cells
          obtain ⟨p0, p1, p2, p3, pf, pl⟩ := hm4.cells
          clear hr hb2 hb3 hm2 hm3 hk3 hs2 hs3 hsk hwk hu3 hlu e1 e2 e3 hown3 hgb hm4 e0
          go_wp2_with (at_builtin; refine Lib.wpList_append_run _ rfl (.tmp 171) (.tmp 173) _ _ rfl _ _ rfl rfl _ w4 HE1.out ?_)
          go_roundw
          case rel => exact ⟨j + 1, by omega, by go_num, us ++ [u], _, by simp [husl], HR2.out, HM5.out, hk5.out, HOW.out, HAG.out⟩
          case measure => simp [intOf]; omega
      · have HFI : Hid (res = some (mkT k (swp a old name) c us) ∧ LiesP wr (fun j => P j ∨ w.heap.size ≤ j) (mkT k (swp a old name) c us) w.heap.size ∧ Below w.heap.size w wr) := by
          have hke : j = KL.length := by have := HLEN.out; omega
          have h1 := hren.out
          rw [hke, List.take_length] at h1
          refine ⟨by rw [HRES.out, h1]; rfl, hmid.out.fin (hkids.out.lower HWK.out) (by omega), hmid.out.hb⟩
        go_wp2_with fail
        go_ret2
        rw [HFI.out.1]
        exact ⟨HFI.out.2.2, _, rfl, HFI.out.2.1⟩
  have f3 : (Go.bits .and .u32 (setI t.fr) (setI (eqS old)) != 0) = true := by rw [bne, is_free HLO.out.1 hft]; rfl
  have HF3 := Lib.hid f3
  have HRB : Hid (res = (freshOf (tkS t old name)).bind fun c2 => (renI n t name c2).bind fun t1 => (renI n t1 old name).map (.un k (swp a old name) c2 ·)) := by rw [Hid, HRES0.out, if_neg hco, if_pos ⟨hcn, hft⟩]
  have hfr := fresh_tk t old name
  clear hco hcn hft
  rcases hfo : freshOf (tkS t old name) with _ | c2
  · rw [hfo] at hfr
    have HFR : Hid (∀ W, Calls Try.prog 106 #[.int .u32 (Go.bits .or .u32 (Go.bits .or .u32 (setI t.fr) (setI (eqS old))) (setI (eqS name)))] W fun e w' => e = .returned (.tuple #[.int .u8 0, .bool false]) ∧ W = w') := hfr
    have HN : Hid (res = none) := by rw [Hid, HRB.out, hfo]; rfl
    clear hfr hfo HRB
    go_wp2_with fail
    refine (HS1.out _).mono ?_
    rintro e w' ⟨rfl, rfl⟩
    go_wp2_with fail
    refine (HFT.out _ (MidN.hb (MidN.set1 HMK0.out (swp a old name)))).mono ?_
    rintro e w' ⟨rfl, m2, rfl⟩
    go_wp2_with fail
    refine (HB2.out _).mono ?_
    rintro e w' ⟨rfl, rfl⟩
    go_wp2_with fail
    try rw [HF3.out]
    refine (HFT.out _ (pw_below_drewN (MidN.hb (MidN.set1 HMK0.out (swp a old name))) m2)).mono ?_
    rintro e w' ⟨rfl, m3, rfl⟩
    go_wp2_with fail
    refine (HB2.out _).mono ?_
    rintro e w' ⟨rfl, rfl⟩
    go_wp2_with fail
    refine (HB3.out _).mono ?_
    rintro e w' ⟨rfl, rfl⟩
    go_wp2_with fail
    refine (HFR.out _).mono ?_
    rintro e w' ⟨rfl, rfl⟩
    go_wp2_with fail
    go_ret2
    rw [HN.out]
    exact ⟨pw_below_drewN (MidN.hb (MidN.set1 HMK0.out (swp a old name))) (m2 + m3), _, rfl⟩
  · rw [hfo] at hfr
    have HFR : Hid (∀ W, Calls Try.prog 106 #[.int .u32 (Go.bits .or .u32 (Go.bits .or .u32 (setI t.fr) (setI (eqS old))) (setI (eqS name)))] W fun e w' => e = .returned (.tuple #[.int .u8 (vl c2), .bool true]) ∧ W = w') := hfr
    have HRB2 : Hid (res = (renI n t name c2).bind fun t1 => (renI n t1 old name).map (.un k (swp a old name) c2 ·)) := by rw [Hid, HRB.out, hfo]; rfl
    have HC2 := Lib.hid (freshOf_let hfo).1
    clear hfr hfo HRB
    go_wp2_with fail
    refine (HS1.out _).mono ?_
    rintro e w' ⟨rfl, rfl⟩
    go_wp2_with fail
    refine (HFT.out _ (MidN.hb (MidN.set1 HMK0.out (swp a old name)))).mono ?_
    rintro e w' ⟨rfl, m2, rfl⟩
    go_wp2_with fail
    refine (HB2.out _).mono ?_
    rintro e w' ⟨rfl, rfl⟩
    go_wp2_with fail
    try rw [HF3.out]
    refine (HFT.out _ (pw_below_drewN (MidN.hb (MidN.set1 HMK0.out (swp a old name))) m2)).mono ?_
    rintro e w' ⟨rfl, m3, rfl⟩
    go_wp2_with fail
    refine (HB2.out _).mono ?_
    rintro e w' ⟨rfl, rfl⟩
    go_wp2_with fail
    refine (HB3.out _).mono ?_
    rintro e w' ⟨rfl, rfl⟩
    go_wp2_with fail
    refine (HFR.out _).mono ?_
    rintro e w' ⟨rfl, rfl⟩
    go_wp2_with fail
    refine (ih t name c2 _ _ x HSW.out.1 HSW.out.2 HLO.out.2 HC2.out (HLX.out _ (pw_below_drewN (MidN.hb (MidN.set1 HMK0.out (swp a old name))) (m2 + m3)))).mono ?_
    rintro e w2 ⟨hb2, hpost⟩
    have hm2 := MidN.below (MidN.below (MidN.set1 HMK0.out (swp a old name)) (pw_below_drewN (Below.refl _ _) (m2 + m3))) hb2
    rcases hr : renI n t name c2 with _ | t1
    · rw [hr] at hpost
      obtain ⟨p, rfl⟩ := hpost
      have HN : Hid (res = none) := by rw [Hid, HRB2.out, hr]; rfl
      have HB3 := Lib.hid hm2
      clear hr hb2 hm2
      go_wp2_with fail
      go_ret2
      rw [HN.out]
      exact ⟨HB3.out.hb, _, rfl⟩
    · rw [hr] at hpost
      obtain ⟨x1, rfl, hl1⟩ := hpost
      obtain ⟨z1, z2⟩ := ren_wf n t name c2 HC2.out HSW.out.2 t1 hr
      have HRC : Hid (res = (renI n t1 old name).map (.un k (swp a old name) c2 ·)) := by rw [Hid, HRB2.out, hr]; rfl
      have HSW1 : Hid (t1.size ≤ n ∧ Wf isLet t1) := ⟨by rw [z1]; exact HSW.out.1, z2⟩
      have hm3 := hm2.set2 c2
      have hm4 := hm3.below (below_alloc (Below.refl _ _) (.cells #[.pointer (some ⟨x1, 0, none⟩)] 50))
      have hs2 := hb2.size
      have hsz1 : ((W1.setCell ⟨w.heap.size, 1, none⟩ (.int .u8 (vl (swp a old name))))).heap.size = W1.heap.size := by first | rfl | simp [World.setCell]
      have hs3 : W1.heap.size ≤ w2.heap.size := by rw [← hsz1]; exact hs2
      obtain ⟨Wk, hWk⟩ : ∃ Wk, Wk = (w2.setCell ⟨w.heap.size, 2, none⟩ (.int .u8 (vl c2))).alloc (.cells #[.pointer (some ⟨x1, 0, none⟩)] 50) := ⟨_, rfl⟩
      have hsz2 : (w2.setCell ⟨w.heap.size, 2, none⟩ (.int .u8 (vl c2))).heap.size = w2.heap.size := by simp [World.setCell]
      have hwl : w.heap.size < w2.heap.size := by omega
      have hkb : ∀ i, i ≠ w.heap.size → i < w2.heap.size → Wk.heap[i]? = w2.heap[i]? := fun i hi hi2 => by
        rw [hWk]; exact (Below.heap_alloc _ _ _ (by rw [hsz2]; exact hi2)).trans (Below.heap_setCell _ _ _ _ (by simpa using hi))
      have hkn : Wk.heap[w2.heap.size]? = some (.cells #[.pointer (some ⟨x1, 0, none⟩)] 50 (0, 0)) := by
        rw [hWk]; have := heap_alloc_new (w2.setCell ⟨w.heap.size, 2, none⟩ (.int .u8 (vl c2))) (.cells #[.pointer (some ⟨x1, 0, none⟩)] 50); rw [hsz2] at this; exact this
      have hks : w2.heap.size < Wk.heap.size := blk_lt hkn
      have HKL0 : ∀ i, (hi : i < [t1].length) → ∃ r x', some (Addr.mk w2.heap.size 0 none) = some ⟨r, 0, none⟩ ∧ r ≠ w.heap.size ∧ Wk.cell? ⟨r, i, none⟩ = some (.pointer (some ⟨x', 0, none⟩)) ∧ LiesP Wk (fun j => Okb w P j ∧ j < Wk.heap.size) [t1][i] x' := fun i hi => by
        have : i = 0 := by simpa using hi
        subst this
        refine ⟨w2.heap.size, x1, rfl, by omega, blk_cell hkn 0, ?_⟩
        have hne : ∀ j, (Okb w P j ∧ j < W1.heap.size ∨ ((W1.setCell ⟨w.heap.size, 1, none⟩ (.int .u8 (vl (swp a old name))))).heap.size ≤ j) → j ≠ w.heap.size := fun j hj => by
          rcases hj with hj | hj
          · exact okb_lt hj.1
          · omega
        refine LiesP.mono (fun j hj hj2 => ?_) (LiesP.keep (w' := Wk) (fun j hj hj2 => hkb j (hne j hj) hj2) hl1)
        rcases hj with hj | hj
        · exact ⟨hj.1, hj2⟩
        · have hj' : ((W1.setCell ⟨w.heap.size, 1, none⟩ (.int .u8 (vl (swp a old name))))).heap.size ≤ j := hj
          exact ⟨.inr (by omega), hj2⟩
      have HMK : Hid (MidN w Wk k (swp a old name) c2 (.slice none 0 0)) := by rw [hWk]; exact hm4
      obtain ⟨KL, hKL⟩ : ∃ KL, [t1] = KL := ⟨_, rfl⟩
      rw [hKL] at HKL0
      have hkl : KL.length ≤ 2 := by rw [← hKL]; simp
      have HLEN : Hid (1 = KL.length) := by rw [← hKL]; rfl
      have HSZ : Hid (∀ u, u ∈ KL → u.size ≤ n ∧ Wf isLet u) := by rw [← hKL]; intro u hu; simp only [List.mem_singleton] at hu; subst hu; exact HSW1.out
      have HRES : Hid (res = (renL n old name KL).map (mkT k (swp a old name) c2)) := by rw [← hKL, Hid, HRC.out]; simp only [renL]; cases renI n t1 old name <;> rfl
      have HWK : Hid (w.heap.size + 1 ≤ Wk.heap.size) := HMK.out.cells.2.2.2.2.2
      have HKL := Lib.hid HKL0
      have HWE := Lib.hid hWk
      obtain ⟨p0, p1, p2, p3, pf, pl⟩ := hm2.cells
      obtain ⟨r0, r1, r2, r3, rf, rl⟩ := hm3.cells
      clear hKL HKL0 hWk HX HMK0 d0 d1 d2 d3 q0 q1' q2' q3' qf ql hbl1 hne hne2 HRC e0 f1 f2 f3 hr hb2 hm2 hm3 hm4 hs2 hsz1 hs3 hwl hkb hkn hks hl1 z1 z2 hsz2
      go_wp2_with fail
      rw [← HWE.out]
      clear HWE p0 p1 p2 p3 pf pl r0 r1 r2 r3 rf rl
      try go_wp2_with fail
      go_loopw [154] (fun i wr => ∃ j : Nat, j ≤ 1 ∧ i = .int .i64 j ∧ ∃ us v, us.length = j ∧ Hid (renL n old name (KL.take j) = some us) ∧ Hid (MidN w wr k (swp a old name) c2 v) ∧ Hid (KidsAt wr Wk.heap.size (Okb w P) v us) ∧ Hid (∀ k, v.ownBlock = some k → Wk.heap.size ≤ k) ∧ Hid (Wk.heap.size ≤ wr.heap.size ∧ ∀ i, i < Wk.heap.size → i ≠ w.heap.size → wr.heap[i]? = Wk.heap[i]?)) (fun i _ => 1 - (intOf i).toNat)
      case atStart => exact ⟨0, Nat.zero_le _, rfl, [], _, rfl, rfl, HMK.out, KidsAt.nil _ _ _, fun k hk => by simp [Value.ownBlock] at hk, Nat.le_refl _, fun _ _ _ => rfl⟩
      case round =>
        obtain ⟨j, hj, rfl, us, v, husl, hren, hmid, hkids, hown, hag⟩ := hrel
        by_cases hlt0 : j < 1
        · have hlt : j < KL.length := by have := HLEN.out; omega
          obtain ⟨r, x, hro, hrb, hrk, hlx⟩ := HKL.out j hlt
          cases hro
          have hrl := World.block_lt_of_cell? Wk _ hrk
          have e0 := (show wr.cell? ⟨_, j, none⟩ = _ from World.cell?_of_block (hag.out.2 _ hrl hrb)).trans hrk
          have HLX : Hid (LiesP wr (fun i => Okb w P i ∧ i < wr.heap.size ∧ ∀ k, v.ownBlock = some k → i ≠ k) KL[j] x) :=
            LiesP.mono (fun i hi hi2 => ⟨hi.1, hi2, fun k hk e => by have := hown.out k hk; have := hi.2; omega⟩) (LiesP.keep (w' := wr) (fun i hi hi2 => hag.out.2 i hi2 (okb_lt hi.1)) hlx)
          have HST : Hid (renL n old name (KL.take (j + 1)) = (renI n KL[j] old name).map fun u => us ++ [u]) := renL_step hlt hren.out
          have HS2 : Hid (KL[j].size ≤ n ∧ Wf isLet KL[j]) := HSZ.out _ (List.getElem_mem hlt)
          clear hrb hrk hlx hrl
          go_wp2_with fail
          refine (ih KL[j] old name wr _ x HS2.out.1 HS2.out.2 HLO.out.1 HLO.out.2 HLX.out).mono ?_
          rintro e w2 ⟨hb2, hpost⟩
          rcases hr : renI n KL[j] old name with _ | u
          · rw [hr] at hpost
            obtain ⟨p, rfl⟩ := hpost
            have HN : Hid (res = none) := by
              have h1 : renL n old name (KL.take (j + 1)) = none := by rw [HST.out, hr]; rfl
              rw [Hid, HRES.out, renL_none h1]; rfl
            have HB := Lib.hid (hmid.out.below hb2)
            clear hr hb2 e0
            go_wp2_with fail
            go_ret2
            rw [HN.out]
            exact ⟨HB.out.hb, _, rfl⟩
          · rw [hr] at hpost
            obtain ⟨x2, rfl, hlu⟩ := hpost
            have HR2 : Hid (renL n old name (KL.take (j + 1)) = some (us ++ [u])) := by rw [Hid, HST.out, hr]; rfl
            have hm2 := hmid.out.below hb2
            have hb3 : Below w2.heap.size w2 (w2.alloc (.cells #[.pointer (some ⟨x2, 0, none⟩)] 50)) := below_alloc (Below.refl _ _) _
            have hm3 := hm2.below hb3
            have hk3 : KidsAt (w2.alloc (.cells #[.pointer (some ⟨x2, 0, none⟩)] 50)) Wk.heap.size (Okb w P) v us := (hkids.out.keep hb2.size fun i _ hi => hb2.block i hi).keep hb3.size fun i _ hi => hb3.block i hi
            have hs2 := hb2.size
            have hs3 := hb3.size
            have hsk := hag.out.1
            have hwk := HWK.out
            have hu3 : LiesP (w2.alloc (.cells #[.pointer (some ⟨x2, 0, none⟩)] 50)) (fun i => Okb w P i ∧ i < (w2.alloc (.cells #[.pointer (some ⟨x2, 0, none⟩)] 50)).heap.size ∧ ∀ k, v.ownBlock = some k → i ≠ k) u x2 := by
              refine LiesP.mono (fun i hi hi2 => ?_) (LiesP.keep (fun i _ hi => hb3.block i hi) hlu)
              rcases hi with hi | hi
              · exact ⟨hi.1, hi2, hi.2.2⟩
              · exact ⟨.inr (by omega), hi2, fun k hk e => by have := (hkids.out.own hk).2; omega⟩
            obtain ⟨v4, w4, e1, e2, e3⟩ := run_append_kid (ty := 58) hk3 (by omega) (by omega) (heap_alloc_new w2 _) hu3
            obtain ⟨o4, l4, cap4, rfl⟩ := e2.slice
            have hown3 : ∀ k, v.ownBlock = some k → w.heap.size < k := fun k hk => by have := hown.out k hk; omega
            have hgb : Below (w.heap.size + 1) (w2.alloc (.cells #[.pointer (some ⟨x2, 0, none⟩)] 50)) w4 := ⟨e3.os, e3.tape, e3.output, e3.size, fun i hi => e3.block i (by omega) fun e => by have := hown3 i e.symm; omega⟩
            have hm4 := hm3.far hgb
            have HM5 := Lib.hid (hm4.set3 (.slice o4 l4 cap4))
            have hk5 := Lib.hid (e2.keep (w' := w4.setCell ⟨w.heap.size, 3, none⟩ (.slice o4 l4 cap4)) (by simp [World.setCell]) fun i hi _ => Below.heap_setCell _ _ _ _ (by
              rcases hi with hi | hi
              · simp; omega
              · simpa using okb_lt hi))
            have HOW : Hid (∀ k, (Value.slice o4 l4 cap4).ownBlock = some k → Wk.heap.size ≤ k) := fun k hk => (e2.own hk).1
            have HAG : Hid (Wk.heap.size ≤ (w4.setCell ⟨w.heap.size, 3, none⟩ (.slice o4 l4 cap4)).heap.size ∧ ∀ i, i < Wk.heap.size → i ≠ w.heap.size → (w4.setCell ⟨w.heap.size, 3, none⟩ (.slice o4 l4 cap4)).heap[i]? = Wk.heap[i]?) := by
              refine ⟨by have := e3.size; simp [World.setCell]; omega, fun i hi hne => ?_⟩
              refine (Below.heap_setCell _ _ _ _ (by simpa using hne)).trans ((e3.block i (by omega) fun e => by have := hown.out i e.symm; omega).trans ((hb3.block i (by omega)).trans ((hb2.block i (by omega)).trans (hag.out.2 i hi hne))))
            have HE1 := Lib.hid e1
            obtain ⟨q0, q1, q2, q3, qf, ql⟩ := hm2.cells
            obtain ⟨p0, p1, p2, p3, pf, pl⟩ := hm4.cells
            clear hr hb2 hb3 hm2 hm3 hk3 hs2 hs3 hsk hwk hu3 hlu e1 e2 e3 hown3 hgb hm4 e0
            go_wp2_with (at_builtin; refine Lib.wpList_append_run _ rfl (.tmp 171) (.tmp 173) _ _ rfl _ _ rfl rfl _ w4 HE1.out ?_)
            go_roundw
            case rel => exact ⟨j + 1, by omega, by go_num, us ++ [u], _, by simp [husl], HR2.out, HM5.out, hk5.out, HOW.out, HAG.out⟩
            case measure => simp [intOf]; omega
        · have HFI : Hid (res = some (mkT k (swp a old name) c2 us) ∧ LiesP wr (fun j => P j ∨ w.heap.size ≤ j) (mkT k (swp a old name) c2 us) w.heap.size ∧ Below w.heap.size w wr) := by
            have hke : j = KL.length := by have := HLEN.out; omega
            have h1 := hren.out
            rw [hke, List.take_length] at h1
            refine ⟨by rw [HRES.out, h1]; rfl, hmid.out.fin (hkids.out.lower HWK.out) (by omega), hmid.out.hb⟩
          go_wp2_with fail
          go_ret2
          rw [HFI.out.1]
          exact ⟨HFI.out.2.2, _, rfl, HFI.out.2.1⟩

end Go.Proofs.Ytfcadppidgkoaaa
namespace Go.Proofs.Ytfcadppidgkoaaa
open Go.RowKit Go.Proofs.YtfcadppidgkoaaaW.PrintWords Go.Proofs.YtfcadppidgkoaaaW.PrintMore
set_option linter.unusedVariables false
set_option linter.unusedSimpArgs false

set_option maxHeartbeats 40000000 in
set_option maxRecDepth 100000 in
theorem ren_bindN (n : Nat) (ih : RenUpto n) (hn100 : n ≤ 99) (k a c : UInt8) (t : Tm) (old name : UInt8) (w : World) (P : Nat → Prop) (b : Nat) (hTs : t.size ≤ n) (hw : Wf isLet (.un k a c t)) (ho : isLet old = true) (hn : isLet name = true) (hl : LiesP w P (.un k a c t) b)
    (h1 : old ≠ name) (hf : (Tm.un k a c t).fr old = true) (q33 : (vl k == 33) = false) (q61 : (vl k == 61) = false) (q3 : (vl k == 63) = false) (q4 : (vl k == 35) = true) (res : Option Tm)
    (hres : res = if c = old then some (.un k a c t) else if c = name ∧ t.fr old = true then (freshOf (tkS t old name)).bind fun c2 => (renI n t name c2).bind fun t1 => (renI n t1 old name).map (.un k a c2 ·) else (renI n t old name).map (.un k a c ·)) :
    Calls Try.prog 87 #[.pointer (some ⟨b, 0, none⟩), .int .u8 (vl old), .int .u8 (vl name)] w (RenPost w P res) := by
  have hsz : (Tm.un k a c t).size ≤ 100 := by simp only [Tm.size]; omega
  have hl' := hl
  obtain ⟨_, r, cap, x, hr, hnode, hkid, hlx⟩ := hl'
  obtain ⟨c0, c1, c2, c3⟩ := hnode.cells
  have HX : Hid (P r ∧ Kid w r 0 x ∧ LiesP w P t x) := ⟨hr, hkid, hlx⟩
  have HSW : Hid (t.size ≤ n ∧ Wf isLet t) := ⟨hTs, hw.2⟩
  have HRES0 := Lib.hid hres
  have HFT : Hid (∀ W, Below w.heap.size w W → _) := fun W (hW : Below w.heap.size w W) => free_any 100 t W 0 x (by omega) (by omega) hw.2 (LiesP.keep (w' := W) (fun j _ hj2 => hW.block j hj2) hlx).lies
  have hr0 := hkid.cell
  have hrl := hkid.lt
  skip
  have HL := Lib.hid hl
  have HFC := Lib.hid (free_any 100 _ w 0 b (by omega) (by omega) hw hl.lies)
  have e1 : (vl old == vl name) = false := by rw [beq_eq_false_iff_ne]; exact fun e => h1 (vl_inj.mp e)
  have e2 := is_free ho hf
  have HB := Lib.hid (fun W => bit_calls ho W)
  have hbl := hl.lt
  have HLO : Hid (isLet old = true ∧ isLet name = true) := ⟨ho, hn⟩
  have HB2 := Lib.hid (fun W => bit_calls ho W)
  have HB3 := Lib.hid (fun W => bit_calls hn W)
  have HS1 := Lib.hid (fun W => swap_calls a old name W)
  clear hl hw h1 hf hres ho hn hr hnode hkid hlx hTs
  replace c0 : w.cell? ⟨b, 0, none⟩ = some (.int .u8 (vl k)) := c0
  replace c1 : w.cell? ⟨b, 1, none⟩ = some (.int .u8 (vl a)) := c1
  replace c2 : w.cell? ⟨b, 2, none⟩ = some (.int .u8 (vl c)) := c2
  go_enter Try.func87, Try.ntmps87
  go_wp2_with fail
  refine HFC.out.mono ?_
  rintro e w' ⟨rfl, m, rfl⟩
  go_wp2_with fail
  refine (HB.out _).mono ?_
  rintro e w' ⟨rfl, rfl⟩
  go_wp2_with fail
  go_region_held3 (fun w' => w'.cell? ⟨b, 0, none⟩ = some (.int .u8 (vl k)) ∧ w'.cell? ⟨b, 1, none⟩ = some (.int .u8 (vl a)) ∧ w'.cell? ⟨b, 2, none⟩ = some (.int .u8 (vl c))) (first | exact ⟨c0, c1, c2⟩ | exact ⟨(World.cell?_of_block (Below.heap_alloc _ _ _ hbl)).trans c0, (World.cell?_of_block (Below.heap_alloc _ _ _ hbl)).trans c1, (World.cell?_of_block (Below.heap_alloc _ _ _ hbl)).trans c2⟩ | go_keep) (fail)
  have e0 := (MidN.start w (m + 1) k a c 60).hb.cell hrl |>.trans hr0
  have M1 := MidN.start w (m + 1) k a c 60
  have HMK0 := Lib.hid M1
  have d0 := (M1.hb.cell hbl).trans c0
  have d1 := (M1.hb.cell hbl).trans c1
  have d2 := (M1.hb.cell hbl).trans c2
  have d3 := (M1.hb.cell hbl).trans c3
  obtain ⟨q0, q1', q2', q3', qf, ql⟩ := M1.cells
  obtain ⟨W1, hW1⟩ : ∃ W1, (w.drewN (m + 1)).alloc (.cells #[.int .u8 (vl k), .int .u8 (vl a), .int .u8 (vl c), .slice none 0 0] 60) = W1 := ⟨_, rfl⟩
  rw [hW1] at HMK0 d0 d1 d2 d3 e0 q0 q1' q2' q3' qf ql ⊢
  have hbl1 : b < W1.heap.size := by omega
  clear hW1 M1 c0 c1 c2 c3 e1 e2 HFC HB
  have HLX : Hid (∀ W, Below w.heap.size w W → LiesP W (fun i => Okb w P i ∧ i < W1.heap.size) t x) := fun W hW => by
    have h1 := LiesP.mono (Q := fun j => P j ∧ j < w.heap.size) (fun j hj hj2 => ⟨hj, hj2⟩) HX.out.2.2
    have h2 := LiesP.keep (w' := W) (fun j _ hj2 => hW.block j hj2) h1
    exact LiesP.mono (fun j hj hj2 => ⟨.inl hj, by omega⟩) h2
  have hne : ¬ b = w.heap.size := by omega
  have hne2 : ¬ w.heap.size = b := by omega
  clear hr0 hrl HL
  by_cases hco : c = old
  · have f1 : (vl c == vl old) = true := by rw [hco]; simp
    have HR2 : Hid (res = some (.un k a c t)) := by rw [Hid, HRES0.out, if_pos hco]
    clear hco
    go_wp2_with fail
    go_ret2
    rw [HR2.out]
    have M := MidN.set3 HMK0.out (.slice (some ⟨r, 0, none⟩) 1 cap)
    exact ⟨M.hb, _, rfl, MidN.share M HX.out.1 HX.out.2.1 HX.out.2.2⟩
  have f1 : (vl c == vl old) = false := by rw [beq_eq_false_iff_ne]; exact fun e => hco (vl_inj.mp e)
  by_cases hcn : c = name
  rotate_left
  · have f2 : (vl c == vl name) = false := by rw [beq_eq_false_iff_ne]; exact fun e => hcn (vl_inj.mp e)
    have HRC : Hid (res = (renI n t old name).map (.un k a c ·)) := by rw [Hid, HRES0.out, if_neg hco, if_neg (fun h => hcn h.1)]
    clear hco hcn
    go_wp2_with fail
    try rw [HF3.out]
    try clear f3
    obtain ⟨Wk, hWk⟩ : ∃ Wk, Wk = W1 := ⟨_, rfl⟩
    have HMK : Hid (MidN w Wk k a c (.slice none 0 0)) := by rw [hWk]; exact HMK0.out
    have HKL0 := kid_one HMK.out.hb HX.out.1 HX.out.2.1 HX.out.2.2
    obtain ⟨KL, hKL⟩ : ∃ KL, [t] = KL := ⟨_, rfl⟩
    rw [hKL] at HKL0
    have hkl : KL.length ≤ 2 := by rw [← hKL]; simp
    have HLEN : Hid (1 = KL.length) := by rw [← hKL]; rfl
    have HSZ : Hid (∀ u, u ∈ KL → u.size ≤ n ∧ Wf isLet u) := by rw [← hKL]; intro u hu; simp only [List.mem_singleton] at hu; subst hu; exact HSW.out
    have HRES : Hid (res = (renL n old name KL).map (mkT k a c)) := by rw [← hKL, Hid, HRC.out]; simp only [renL]; cases renI n t old name <;> rfl
    have HWK : Hid (w.heap.size + 1 ≤ Wk.heap.size) := HMK.out.cells.2.2.2.2.2
    have HKL := Lib.hid HKL0
    rw [← hWk]
    clear hKL HKL0 hWk HX HMK0 d0 d1 d2 d3 q0 q1' q2' q3' qf ql hbl1 hne hne2 HRC e0 f1 f2
    try go_wp2_with fail
    go_loopw [154] (fun i wr => ∃ j : Nat, j ≤ 1 ∧ i = .int .i64 j ∧ ∃ us v, us.length = j ∧ Hid (renL n old name (KL.take j) = some us) ∧ Hid (MidN w wr k a c v) ∧ Hid (KidsAt wr Wk.heap.size (Okb w P) v us) ∧ Hid (∀ k, v.ownBlock = some k → Wk.heap.size ≤ k) ∧ Hid (Wk.heap.size ≤ wr.heap.size ∧ ∀ i, i < Wk.heap.size → i ≠ w.heap.size → wr.heap[i]? = Wk.heap[i]?)) (fun i _ => 1 - (intOf i).toNat)
    case atStart => exact ⟨0, Nat.zero_le _, rfl, [], _, rfl, rfl, HMK.out, KidsAt.nil _ _ _, fun k hk => by simp [Value.ownBlock] at hk, Nat.le_refl _, fun _ _ _ => rfl⟩
    case round =>
      obtain ⟨j, hj, rfl, us, v, husl, hren, hmid, hkids, hown, hag⟩ := hrel
      by_cases hlt0 : j < 1
      · have hlt : j < KL.length := by have := HLEN.out; omega
        obtain ⟨r, x, hro, hrb, hrk, hlx⟩ := HKL.out j hlt
        cases hro
        have hrl := World.block_lt_of_cell? Wk _ hrk
        have e0 := (show wr.cell? ⟨_, j, none⟩ = _ from World.cell?_of_block (hag.out.2 _ hrl hrb)).trans hrk
        have HLX : Hid (LiesP wr (fun i => Okb w P i ∧ i < wr.heap.size ∧ ∀ k, v.ownBlock = some k → i ≠ k) KL[j] x) :=
          LiesP.mono (fun i hi hi2 => ⟨hi.1, hi2, fun k hk e => by have := hown.out k hk; have := hi.2; omega⟩) (LiesP.keep (w' := wr) (fun i hi hi2 => hag.out.2 i hi2 (okb_lt hi.1)) hlx)
        have HST : Hid (renL n old name (KL.take (j + 1)) = (renI n KL[j] old name).map fun u => us ++ [u]) := renL_step hlt hren.out
        have HS2 : Hid (KL[j].size ≤ n ∧ Wf isLet KL[j]) := HSZ.out _ (List.getElem_mem hlt)
        clear hrb hrk hlx hrl
        go_wp2_with fail
        refine (ih KL[j] old name wr _ x HS2.out.1 HS2.out.2 HLO.out.1 HLO.out.2 HLX.out).mono ?_
        rintro e w2 ⟨hb2, hpost⟩
        rcases hr : renI n KL[j] old name with _ | u
        · rw [hr] at hpost
          obtain ⟨p, rfl⟩ := hpost
          have HN : Hid (res = none) := by
            have h1 : renL n old name (KL.take (j + 1)) = none := by rw [HST.out, hr]; rfl
            rw [Hid, HRES.out, renL_none h1]; rfl
          have HB := Lib.hid (hmid.out.below hb2)
          clear hr hb2 e0
          go_wp2_with fail
          go_ret2
          rw [HN.out]
          exact ⟨HB.out.hb, _, rfl⟩
        · rw [hr] at hpost
          obtain ⟨x2, rfl, hlu⟩ := hpost
          have HR2 : Hid (renL n old name (KL.take (j + 1)) = some (us ++ [u])) := by rw [Hid, HST.out, hr]; rfl
          have hm2 := hmid.out.below hb2
          have hb3 : Below w2.heap.size w2 (w2.alloc (.cells #[.pointer (some ⟨x2, 0, none⟩)] 50)) := below_alloc (Below.refl _ _) _
          have hm3 := hm2.below hb3
          have hk3 : KidsAt (w2.alloc (.cells #[.pointer (some ⟨x2, 0, none⟩)] 50)) Wk.heap.size (Okb w P) v us := (hkids.out.keep hb2.size fun i _ hi => hb2.block i hi).keep hb3.size fun i _ hi => hb3.block i hi
          have hs2 := hb2.size
          have hs3 := hb3.size
          have hsk := hag.out.1
          have hwk := HWK.out
          have hu3 : LiesP (w2.alloc (.cells #[.pointer (some ⟨x2, 0, none⟩)] 50)) (fun i => Okb w P i ∧ i < (w2.alloc (.cells #[.pointer (some ⟨x2, 0, none⟩)] 50)).heap.size ∧ ∀ k, v.ownBlock = some k → i ≠ k) u x2 := by
            refine LiesP.mono (fun i hi hi2 => ?_) (LiesP.keep (fun i _ hi => hb3.block i hi) hlu)
            rcases hi with hi | hi
            · exact ⟨hi.1, hi2, hi.2.2⟩
            · exact ⟨.inr (by omega), hi2, fun k hk e => by have := (hkids.out.own hk).2; omega⟩
          obtain ⟨v4, w4, e1, e2, e3⟩ := run_append_kid (ty := 58) hk3 (by omega) (by omega) (heap_alloc_new w2 _) hu3
          obtain ⟨o4, l4, cap4, rfl⟩ := e2.slice
          have hown3 : ∀ k, v.ownBlock = some k → w.heap.size < k := fun k hk => by have := hown.out k hk; omega
          have hgb : Below (w.heap.size + 1) (w2.alloc (.cells #[.pointer (some ⟨x2, 0, none⟩)] 50)) w4 := ⟨e3.os, e3.tape, e3.output, e3.size, fun i hi => e3.block i (by omega) fun e => by have := hown3 i e.symm; omega⟩
          have hm4 := hm3.far hgb
          have HM5 := Lib.hid (hm4.set3 (.slice o4 l4 cap4))
          have hk5 := Lib.hid (e2.keep (w' := w4.setCell ⟨w.heap.size, 3, none⟩ (.slice o4 l4 cap4)) (by simp [World.setCell]) fun i hi _ => Below.heap_setCell _ _ _ _ (by
            rcases hi with hi | hi
            · simp; omega
            · simpa using okb_lt hi))
          have HOW : Hid (∀ k, (Value.slice o4 l4 cap4).ownBlock = some k → Wk.heap.size ≤ k) := fun k hk => (e2.own hk).1
          have HAG : Hid (Wk.heap.size ≤ (w4.setCell ⟨w.heap.size, 3, none⟩ (.slice o4 l4 cap4)).heap.size ∧ ∀ i, i < Wk.heap.size → i ≠ w.heap.size → (w4.setCell ⟨w.heap.size, 3, none⟩ (.slice o4 l4 cap4)).heap[i]? = Wk.heap[i]?) := by
            refine ⟨by have := e3.size; simp [World.setCell]; omega, fun i hi hne => ?_⟩
            refine (Below.heap_setCell _ _ _ _ (by simpa using hne)).trans ((e3.block i (by omega) fun e => by have := hown.out i e.symm; omega).trans ((hb3.block i (by omega)).trans ((hb2.block i (by omega)).trans (hag.out.2 i hi hne))))
          have HE1 := Lib.hid e1
          obtain ⟨q0, q1, q2, q3, qf, ql⟩ := hm2.cells
          obtain ⟨p0, p1, p2, p3, pf, pl⟩ := hm4.cells
          clear hr hb2 hb3 hm2 hm3 hk3 hs2 hs3 hsk hwk hu3 hlu e1 e2 e3 hown3 hgb hm4 e0
          go_wp2_with (at_builtin; refine Lib.wpList_append_run _ rfl (.tmp 171) (.tmp 173) _ _ rfl _ _ rfl rfl _ w4 HE1.out ?_)
          go_roundw
          case rel => exact ⟨j + 1, by omega, by go_num, us ++ [u], _, by simp [husl], HR2.out, HM5.out, hk5.out, HOW.out, HAG.out⟩
          case measure => simp [intOf]; omega
      · have HFI : Hid (res = some (mkT k a c us) ∧ LiesP wr (fun j => P j ∨ w.heap.size ≤ j) (mkT k a c us) w.heap.size ∧ Below w.heap.size w wr) := by
          have hke : j = KL.length := by have := HLEN.out; omega
          have h1 := hren.out
          rw [hke, List.take_length] at h1
          refine ⟨by rw [HRES.out, h1]; rfl, hmid.out.fin (hkids.out.lower HWK.out) (by omega), hmid.out.hb⟩
        go_wp2_with fail
        go_ret2
        rw [HFI.out.1]
        exact ⟨HFI.out.2.2, _, rfl, HFI.out.2.1⟩
  have f2 : (vl c == vl name) = true := by rw [hcn]; simp
  by_cases hft : t.fr old = true
  rotate_left
  · have f3 : (Go.bits .and .u32 (setI t.fr) (setI (eqS old)) != 0) = false := by rw [bne, not_free HLO.out.1 (Bool.eq_false_iff.mpr hft)]; rfl
    have HF3 := Lib.hid f3
    have HRC : Hid (res = (renI n t old name).map (.un k a c ·)) := by rw [Hid, HRES0.out, if_neg hco, if_neg (fun h => hft h.2)]
    clear hco hcn hft
    go_wp2_with fail
    refine (HFT.out _ (MidN.hb HMK0.out)).mono ?_
    rintro e w' ⟨rfl, m2, rfl⟩
    go_wp2_with fail
    refine (HB2.out _).mono ?_
    rintro e w' ⟨rfl, rfl⟩
    go_wp2_with fail
    try rw [HF3.out]
    try clear f3
    obtain ⟨Wk, hWk⟩ : ∃ Wk, Wk = (W1.drewN m2) := ⟨_, rfl⟩
    have HMK : Hid (MidN w Wk k a c (.slice none 0 0)) := by rw [hWk]; exact (MidN.below HMK0.out (pw_below_drewN (Below.refl _ _) m2))
    have HKL0 := kid_one HMK.out.hb HX.out.1 HX.out.2.1 HX.out.2.2
    obtain ⟨KL, hKL⟩ : ∃ KL, [t] = KL := ⟨_, rfl⟩
    rw [hKL] at HKL0
    have hkl : KL.length ≤ 2 := by rw [← hKL]; simp
    have HLEN : Hid (1 = KL.length) := by rw [← hKL]; rfl
    have HSZ : Hid (∀ u, u ∈ KL → u.size ≤ n ∧ Wf isLet u) := by rw [← hKL]; intro u hu; simp only [List.mem_singleton] at hu; subst hu; exact HSW.out
    have HRES : Hid (res = (renL n old name KL).map (mkT k a c)) := by rw [← hKL, Hid, HRC.out]; simp only [renL]; cases renI n t old name <;> rfl
    have HWK : Hid (w.heap.size + 1 ≤ Wk.heap.size) := HMK.out.cells.2.2.2.2.2
    have HKL := Lib.hid HKL0
    rw [← hWk]
    clear hKL HKL0 hWk HX HMK0 d0 d1 d2 d3 q0 q1' q2' q3' qf ql hbl1 hne hne2 HRC e0 f1 f2
    try go_wp2_with fail
    go_loopw [154] (fun i wr => ∃ j : Nat, j ≤ 1 ∧ i = .int .i64 j ∧ ∃ us v, us.length = j ∧ Hid (renL n old name (KL.take j) = some us) ∧ Hid (MidN w wr k a c v) ∧ Hid (KidsAt wr Wk.heap.size (Okb w P) v us) ∧ Hid (∀ k, v.ownBlock = some k → Wk.heap.size ≤ k) ∧ Hid (Wk.heap.size ≤ wr.heap.size ∧ ∀ i, i < Wk.heap.size → i ≠ w.heap.size → wr.heap[i]? = Wk.heap[i]?)) (fun i _ => 1 - (intOf i).toNat)
    case atStart => exact ⟨0, Nat.zero_le _, rfl, [], _, rfl, rfl, HMK.out, KidsAt.nil _ _ _, fun k hk => by simp [Value.ownBlock] at hk, Nat.le_refl _, fun _ _ _ => rfl⟩
    case round =>
      obtain ⟨j, hj, rfl, us, v, husl, hren, hmid, hkids, hown, hag⟩ := hrel
      by_cases hlt0 : j < 1
      · have hlt : j < KL.length := by have := HLEN.out; omega
        obtain ⟨r, x, hro, hrb, hrk, hlx⟩ := HKL.out j hlt
        cases hro
        have hrl := World.block_lt_of_cell? Wk _ hrk
        have e0 := (show wr.cell? ⟨_, j, none⟩ = _ from World.cell?_of_block (hag.out.2 _ hrl hrb)).trans hrk
        have HLX : Hid (LiesP wr (fun i => Okb w P i ∧ i < wr.heap.size ∧ ∀ k, v.ownBlock = some k → i ≠ k) KL[j] x) :=
          LiesP.mono (fun i hi hi2 => ⟨hi.1, hi2, fun k hk e => by have := hown.out k hk; have := hi.2; omega⟩) (LiesP.keep (w' := wr) (fun i hi hi2 => hag.out.2 i hi2 (okb_lt hi.1)) hlx)
        have HST : Hid (renL n old name (KL.take (j + 1)) = (renI n KL[j] old name).map fun u => us ++ [u]) := renL_step hlt hren.out
        have HS2 : Hid (KL[j].size ≤ n ∧ Wf isLet KL[j]) := HSZ.out _ (List.getElem_mem hlt)
        clear hrb hrk hlx hrl
        go_wp2_with fail
        refine (ih KL[j] old name wr _ x HS2.out.1 HS2.out.2 HLO.out.1 HLO.out.2 HLX.out).mono ?_
        rintro e w2 ⟨hb2, hpost⟩
        rcases hr : renI n KL[j] old name with _ | u
        · rw [hr] at hpost
          obtain ⟨p, rfl⟩ := hpost
          have HN : Hid (res = none) := by
            have h1 : renL n old name (KL.take (j + 1)) = none := by rw [HST.out, hr]; rfl
            rw [Hid, HRES.out, renL_none h1]; rfl
          have HB := Lib.hid (hmid.out.below hb2)
          clear hr hb2 e0
          go_wp2_with fail
          go_ret2
          rw [HN.out]
          exact ⟨HB.out.hb, _, rfl⟩
        · rw [hr] at hpost
          obtain ⟨x2, rfl, hlu⟩ := hpost
          have HR2 : Hid (renL n old name (KL.take (j + 1)) = some (us ++ [u])) := by rw [Hid, HST.out, hr]; rfl
          have hm2 := hmid.out.below hb2
          have hb3 : Below w2.heap.size w2 (w2.alloc (.cells #[.pointer (some ⟨x2, 0, none⟩)] 50)) := below_alloc (Below.refl _ _) _
          have hm3 := hm2.below hb3
          have hk3 : KidsAt (w2.alloc (.cells #[.pointer (some ⟨x2, 0, none⟩)] 50)) Wk.heap.size (Okb w P) v us := (hkids.out.keep hb2.size fun i _ hi => hb2.block i hi).keep hb3.size fun i _ hi => hb3.block i hi
          have hs2 := hb2.size
          have hs3 := hb3.size
          have hsk := hag.out.1
          have hwk := HWK.out
          have hu3 : LiesP (w2.alloc (.cells #[.pointer (some ⟨x2, 0, none⟩)] 50)) (fun i => Okb w P i ∧ i < (w2.alloc (.cells #[.pointer (some ⟨x2, 0, none⟩)] 50)).heap.size ∧ ∀ k, v.ownBlock = some k → i ≠ k) u x2 := by
            refine LiesP.mono (fun i hi hi2 => ?_) (LiesP.keep (fun i _ hi => hb3.block i hi) hlu)
            rcases hi with hi | hi
            · exact ⟨hi.1, hi2, hi.2.2⟩
            · exact ⟨.inr (by omega), hi2, fun k hk e => by have := (hkids.out.own hk).2; omega⟩
          obtain ⟨v4, w4, e1, e2, e3⟩ := run_append_kid (ty := 58) hk3 (by omega) (by omega) (heap_alloc_new w2 _) hu3
          obtain ⟨o4, l4, cap4, rfl⟩ := e2.slice
          have hown3 : ∀ k, v.ownBlock = some k → w.heap.size < k := fun k hk => by have := hown.out k hk; omega
          have hgb : Below (w.heap.size + 1) (w2.alloc (.cells #[.pointer (some ⟨x2, 0, none⟩)] 50)) w4 := ⟨e3.os, e3.tape, e3.output, e3.size, fun i hi => e3.block i (by omega) fun e => by have := hown3 i e.symm; omega⟩
          have hm4 := hm3.far hgb
          have HM5 := Lib.hid (hm4.set3 (.slice o4 l4 cap4))
          have hk5 := Lib.hid (e2.keep (w' := w4.setCell ⟨w.heap.size, 3, none⟩ (.slice o4 l4 cap4)) (by simp [World.setCell]) fun i hi _ => Below.heap_setCell _ _ _ _ (by
            rcases hi with hi | hi
            · simp; omega
            · simpa using okb_lt hi))
          have HOW : Hid (∀ k, (Value.slice o4 l4 cap4).ownBlock = some k → Wk.heap.size ≤ k) := fun k hk => (e2.own hk).1
          have HAG : Hid (Wk.heap.size ≤ (w4.setCell ⟨w.heap.size, 3, none⟩ (.slice o4 l4 cap4)).heap.size ∧ ∀ i, i < Wk.heap.size → i ≠ w.heap.size → (w4.setCell ⟨w.heap.size, 3, none⟩ (.slice o4 l4 cap4)).heap[i]? = Wk.heap[i]?) := by
            refine ⟨by have := e3.size; simp [World.setCell]; omega, fun i hi hne => ?_⟩
            refine (Below.heap_setCell _ _ _ _ (by simpa using hne)).trans ((e3.block i (by omega) fun e => by have := hown.out i e.symm; omega).trans ((hb3.block i (by omega)).trans ((hb2.block i (by omega)).trans (hag.out.2 i hi hne))))
          have HE1 := Lib.hid e1
          obtain ⟨q0, q1, q2, q3, qf, ql⟩ := hm2.cells
          obtain ⟨p0, p1, p2, p3, pf, pl⟩ := hm4.cells
          clear hr hb2 hb3 hm2 hm3 hk3 hs2 hs3 hsk hwk hu3 hlu e1 e2 e3 hown3 hgb hm4 e0
          go_wp2_with (at_builtin; refine Lib.wpList_append_run _ rfl (.tmp 171) (.tmp 173) _ _ rfl _ _ rfl rfl _ w4 HE1.out ?_)
          go_roundw
          case rel => exact ⟨j + 1, by omega, by go_num, us ++ [u], _, by simp [husl], HR2.out, HM5.out, hk5.out, HOW.out, HAG.out⟩
          case measure => simp [intOf]; omega
      · have HFI : Hid (res = some (mkT k a c us) ∧ LiesP wr (fun j => P j ∨ w.heap.size ≤ j) (mkT k a c us) w.heap.size ∧ Below w.heap.size w wr) := by
          have hke : j = KL.length := by have := HLEN.out; omega
          have h1 := hren.out
          rw [hke, List.take_length] at h1
          refine ⟨by rw [HRES.out, h1]; rfl, hmid.out.fin (hkids.out.lower HWK.out) (by omega), hmid.out.hb⟩
        go_wp2_with fail
        go_ret2
        rw [HFI.out.1]
        exact ⟨HFI.out.2.2, _, rfl, HFI.out.2.1⟩
  have f3 : (Go.bits .and .u32 (setI t.fr) (setI (eqS old)) != 0) = true := by rw [bne, is_free HLO.out.1 hft]; rfl
  have HF3 := Lib.hid f3
  have HRB : Hid (res = (freshOf (tkS t old name)).bind fun c2 => (renI n t name c2).bind fun t1 => (renI n t1 old name).map (.un k a c2 ·)) := by rw [Hid, HRES0.out, if_neg hco, if_pos ⟨hcn, hft⟩]
  have hfr := fresh_tk t old name
  clear hco hcn hft
  rcases hfo : freshOf (tkS t old name) with _ | c2
  · rw [hfo] at hfr
    have HFR : Hid (∀ W, Calls Try.prog 106 #[.int .u32 (Go.bits .or .u32 (Go.bits .or .u32 (setI t.fr) (setI (eqS old))) (setI (eqS name)))] W fun e w' => e = .returned (.tuple #[.int .u8 0, .bool false]) ∧ W = w') := hfr
    have HN : Hid (res = none) := by rw [Hid, HRB.out, hfo]; rfl
    clear hfr hfo HRB
    go_wp2_with fail
    refine (HFT.out _ (MidN.hb HMK0.out)).mono ?_
    rintro e w' ⟨rfl, m2, rfl⟩
    go_wp2_with fail
    refine (HB2.out _).mono ?_
    rintro e w' ⟨rfl, rfl⟩
    go_wp2_with fail
    try rw [HF3.out]
    refine (HFT.out _ (pw_below_drewN (MidN.hb HMK0.out) m2)).mono ?_
    rintro e w' ⟨rfl, m3, rfl⟩
    go_wp2_with fail
    refine (HB2.out _).mono ?_
    rintro e w' ⟨rfl, rfl⟩
    go_wp2_with fail
    refine (HB3.out _).mono ?_
    rintro e w' ⟨rfl, rfl⟩
    go_wp2_with fail
    refine (HFR.out _).mono ?_
    rintro e w' ⟨rfl, rfl⟩
    go_wp2_with fail
    go_ret2
    rw [HN.out]
    exact ⟨pw_below_drewN (MidN.hb HMK0.out) (m2 + m3), _, rfl⟩
  · rw [hfo] at hfr
    have HFR : Hid (∀ W, Calls Try.prog 106 #[.int .u32 (Go.bits .or .u32 (Go.bits .or .u32 (setI t.fr) (setI (eqS old))) (setI (eqS name)))] W fun e w' => e = .returned (.tuple #[.int .u8 (vl c2), .bool true]) ∧ W = w') := hfr
    have HRB2 : Hid (res = (renI n t name c2).bind fun t1 => (renI n t1 old name).map (.un k a c2 ·)) := by rw [Hid, HRB.out, hfo]; rfl
    have HC2 := Lib.hid (freshOf_let hfo).1
    clear hfr hfo HRB
    go_wp2_with fail
    refine (HFT.out _ (MidN.hb HMK0.out)).mono ?_
    rintro e w' ⟨rfl, m2, rfl⟩
    go_wp2_with fail
    refine (HB2.out _).mono ?_
    rintro e w' ⟨rfl, rfl⟩
    go_wp2_with fail
    try rw [HF3.out]
    refine (HFT.out _ (pw_below_drewN (MidN.hb HMK0.out) m2)).mono ?_
    rintro e w' ⟨rfl, m3, rfl⟩
    go_wp2_with fail
    refine (HB2.out _).mono ?_
    rintro e w' ⟨rfl, rfl⟩
    go_wp2_with fail
    refine (HB3.out _).mono ?_
    rintro e w' ⟨rfl, rfl⟩
    go_wp2_with fail
    refine (HFR.out _).mono ?_
    rintro e w' ⟨rfl, rfl⟩
    go_wp2_with fail
    refine (ih t name c2 _ _ x HSW.out.1 HSW.out.2 HLO.out.2 HC2.out (HLX.out _ (pw_below_drewN (MidN.hb HMK0.out) (m2 + m3)))).mono ?_
    rintro e w2 ⟨hb2, hpost⟩
    have hm2 := MidN.below (MidN.below HMK0.out (pw_below_drewN (Below.refl _ _) (m2 + m3))) hb2
    rcases hr : renI n t name c2 with _ | t1
    · rw [hr] at hpost
      obtain ⟨p, rfl⟩ := hpost
      have HN : Hid (res = none) := by rw [Hid, HRB2.out, hr]; rfl
      have HB3 := Lib.hid hm2
      clear hr hb2 hm2
      go_wp2_with fail
      go_ret2
      rw [HN.out]
      exact ⟨HB3.out.hb, _, rfl⟩
    · rw [hr] at hpost
      obtain ⟨x1, rfl, hl1⟩ := hpost
      obtain ⟨z1, z2⟩ := ren_wf n t name c2 HC2.out HSW.out.2 t1 hr
      have HRC : Hid (res = (renI n t1 old name).map (.un k a c2 ·)) := by rw [Hid, HRB2.out, hr]; rfl
      have HSW1 : Hid (t1.size ≤ n ∧ Wf isLet t1) := ⟨by rw [z1]; exact HSW.out.1, z2⟩
      have hm3 := hm2.set2 c2
      have hm4 := hm3.below (below_alloc (Below.refl _ _) (.cells #[.pointer (some ⟨x1, 0, none⟩)] 50))
      have hs2 := hb2.size
      have hsz1 : (W1).heap.size = W1.heap.size := by first | rfl | simp [World.setCell]
      have hs3 : W1.heap.size ≤ w2.heap.size := by rw [← hsz1]; exact hs2
      obtain ⟨Wk, hWk⟩ : ∃ Wk, Wk = (w2.setCell ⟨w.heap.size, 2, none⟩ (.int .u8 (vl c2))).alloc (.cells #[.pointer (some ⟨x1, 0, none⟩)] 50) := ⟨_, rfl⟩
      have hsz2 : (w2.setCell ⟨w.heap.size, 2, none⟩ (.int .u8 (vl c2))).heap.size = w2.heap.size := by simp [World.setCell]
      have hwl : w.heap.size < w2.heap.size := by omega
      have hkb : ∀ i, i ≠ w.heap.size → i < w2.heap.size → Wk.heap[i]? = w2.heap[i]? := fun i hi hi2 => by
        rw [hWk]; exact (Below.heap_alloc _ _ _ (by rw [hsz2]; exact hi2)).trans (Below.heap_setCell _ _ _ _ (by simpa using hi))
      have hkn : Wk.heap[w2.heap.size]? = some (.cells #[.pointer (some ⟨x1, 0, none⟩)] 50 (0, 0)) := by
        rw [hWk]; have := heap_alloc_new (w2.setCell ⟨w.heap.size, 2, none⟩ (.int .u8 (vl c2))) (.cells #[.pointer (some ⟨x1, 0, none⟩)] 50); rw [hsz2] at this; exact this
      have hks : w2.heap.size < Wk.heap.size := blk_lt hkn
      have HKL0 : ∀ i, (hi : i < [t1].length) → ∃ r x', some (Addr.mk w2.heap.size 0 none) = some ⟨r, 0, none⟩ ∧ r ≠ w.heap.size ∧ Wk.cell? ⟨r, i, none⟩ = some (.pointer (some ⟨x', 0, none⟩)) ∧ LiesP Wk (fun j => Okb w P j ∧ j < Wk.heap.size) [t1][i] x' := fun i hi => by
        have : i = 0 := by simpa using hi
        subst this
        refine ⟨w2.heap.size, x1, rfl, by omega, blk_cell hkn 0, ?_⟩
        have hne : ∀ j, (Okb w P j ∧ j < W1.heap.size ∨ (W1).heap.size ≤ j) → j ≠ w.heap.size := fun j hj => by
          rcases hj with hj | hj
          · exact okb_lt hj.1
          · omega
        refine LiesP.mono (fun j hj hj2 => ?_) (LiesP.keep (w' := Wk) (fun j hj hj2 => hkb j (hne j hj) hj2) hl1)
        rcases hj with hj | hj
        · exact ⟨hj.1, hj2⟩
        · have hj' : (W1).heap.size ≤ j := hj
          exact ⟨.inr (by omega), hj2⟩
      have HMK : Hid (MidN w Wk k a c2 (.slice none 0 0)) := by rw [hWk]; exact hm4
      obtain ⟨KL, hKL⟩ : ∃ KL, [t1] = KL := ⟨_, rfl⟩
      rw [hKL] at HKL0
      have hkl : KL.length ≤ 2 := by rw [← hKL]; simp
      have HLEN : Hid (1 = KL.length) := by rw [← hKL]; rfl
      have HSZ : Hid (∀ u, u ∈ KL → u.size ≤ n ∧ Wf isLet u) := by rw [← hKL]; intro u hu; simp only [List.mem_singleton] at hu; subst hu; exact HSW1.out
      have HRES : Hid (res = (renL n old name KL).map (mkT k a c2)) := by rw [← hKL, Hid, HRC.out]; simp only [renL]; cases renI n t1 old name <;> rfl
      have HWK : Hid (w.heap.size + 1 ≤ Wk.heap.size) := HMK.out.cells.2.2.2.2.2
      have HKL := Lib.hid HKL0
      have HWE := Lib.hid hWk
      obtain ⟨p0, p1, p2, p3, pf, pl⟩ := hm2.cells
      obtain ⟨r0, r1, r2, r3, rf, rl⟩ := hm3.cells
      clear hKL HKL0 hWk HX HMK0 d0 d1 d2 d3 q0 q1' q2' q3' qf ql hbl1 hne hne2 HRC e0 f1 f2 f3 hr hb2 hm2 hm3 hm4 hs2 hsz1 hs3 hwl hkb hkn hks hl1 z1 z2 hsz2
      go_wp2_with fail
      rw [← HWE.out]
      clear HWE p0 p1 p2 p3 pf pl r0 r1 r2 r3 rf rl
      try go_wp2_with fail
      go_loopw [154] (fun i wr => ∃ j : Nat, j ≤ 1 ∧ i = .int .i64 j ∧ ∃ us v, us.length = j ∧ Hid (renL n old name (KL.take j) = some us) ∧ Hid (MidN w wr k a c2 v) ∧ Hid (KidsAt wr Wk.heap.size (Okb w P) v us) ∧ Hid (∀ k, v.ownBlock = some k → Wk.heap.size ≤ k) ∧ Hid (Wk.heap.size ≤ wr.heap.size ∧ ∀ i, i < Wk.heap.size → i ≠ w.heap.size → wr.heap[i]? = Wk.heap[i]?)) (fun i _ => 1 - (intOf i).toNat)
      case atStart => exact ⟨0, Nat.zero_le _, rfl, [], _, rfl, rfl, HMK.out, KidsAt.nil _ _ _, fun k hk => by simp [Value.ownBlock] at hk, Nat.le_refl _, fun _ _ _ => rfl⟩
      case round =>
        obtain ⟨j, hj, rfl, us, v, husl, hren, hmid, hkids, hown, hag⟩ := hrel
        by_cases hlt0 : j < 1
        · have hlt : j < KL.length := by have := HLEN.out; omega
          obtain ⟨r, x, hro, hrb, hrk, hlx⟩ := HKL.out j hlt
          cases hro
          have hrl := World.block_lt_of_cell? Wk _ hrk
          have e0 := (show wr.cell? ⟨_, j, none⟩ = _ from World.cell?_of_block (hag.out.2 _ hrl hrb)).trans hrk
          have HLX : Hid (LiesP wr (fun i => Okb w P i ∧ i < wr.heap.size ∧ ∀ k, v.ownBlock = some k → i ≠ k) KL[j] x) :=
            LiesP.mono (fun i hi hi2 => ⟨hi.1, hi2, fun k hk e => by have := hown.out k hk; have := hi.2; omega⟩) (LiesP.keep (w' := wr) (fun i hi hi2 => hag.out.2 i hi2 (okb_lt hi.1)) hlx)
          have HST : Hid (renL n old name (KL.take (j + 1)) = (renI n KL[j] old name).map fun u => us ++ [u]) := renL_step hlt hren.out
          have HS2 : Hid (KL[j].size ≤ n ∧ Wf isLet KL[j]) := HSZ.out _ (List.getElem_mem hlt)
          clear hrb hrk hlx hrl
          go_wp2_with fail
          refine (ih KL[j] old name wr _ x HS2.out.1 HS2.out.2 HLO.out.1 HLO.out.2 HLX.out).mono ?_
          rintro e w2 ⟨hb2, hpost⟩
          rcases hr : renI n KL[j] old name with _ | u
          · rw [hr] at hpost
            obtain ⟨p, rfl⟩ := hpost
            have HN : Hid (res = none) := by
              have h1 : renL n old name (KL.take (j + 1)) = none := by rw [HST.out, hr]; rfl
              rw [Hid, HRES.out, renL_none h1]; rfl
            have HB := Lib.hid (hmid.out.below hb2)
            clear hr hb2 e0
            go_wp2_with fail
            go_ret2
            rw [HN.out]
            exact ⟨HB.out.hb, _, rfl⟩
          · rw [hr] at hpost
            obtain ⟨x2, rfl, hlu⟩ := hpost
            have HR2 : Hid (renL n old name (KL.take (j + 1)) = some (us ++ [u])) := by rw [Hid, HST.out, hr]; rfl
            have hm2 := hmid.out.below hb2
            have hb3 : Below w2.heap.size w2 (w2.alloc (.cells #[.pointer (some ⟨x2, 0, none⟩)] 50)) := below_alloc (Below.refl _ _) _
            have hm3 := hm2.below hb3
            have hk3 : KidsAt (w2.alloc (.cells #[.pointer (some ⟨x2, 0, none⟩)] 50)) Wk.heap.size (Okb w P) v us := (hkids.out.keep hb2.size fun i _ hi => hb2.block i hi).keep hb3.size fun i _ hi => hb3.block i hi
            have hs2 := hb2.size
            have hs3 := hb3.size
            have hsk := hag.out.1
            have hwk := HWK.out
            have hu3 : LiesP (w2.alloc (.cells #[.pointer (some ⟨x2, 0, none⟩)] 50)) (fun i => Okb w P i ∧ i < (w2.alloc (.cells #[.pointer (some ⟨x2, 0, none⟩)] 50)).heap.size ∧ ∀ k, v.ownBlock = some k → i ≠ k) u x2 := by
              refine LiesP.mono (fun i hi hi2 => ?_) (LiesP.keep (fun i _ hi => hb3.block i hi) hlu)
              rcases hi with hi | hi
              · exact ⟨hi.1, hi2, hi.2.2⟩
              · exact ⟨.inr (by omega), hi2, fun k hk e => by have := (hkids.out.own hk).2; omega⟩
            obtain ⟨v4, w4, e1, e2, e3⟩ := run_append_kid (ty := 58) hk3 (by omega) (by omega) (heap_alloc_new w2 _) hu3
            obtain ⟨o4, l4, cap4, rfl⟩ := e2.slice
            have hown3 : ∀ k, v.ownBlock = some k → w.heap.size < k := fun k hk => by have := hown.out k hk; omega
            have hgb : Below (w.heap.size + 1) (w2.alloc (.cells #[.pointer (some ⟨x2, 0, none⟩)] 50)) w4 := ⟨e3.os, e3.tape, e3.output, e3.size, fun i hi => e3.block i (by omega) fun e => by have := hown3 i e.symm; omega⟩
            have hm4 := hm3.far hgb
            have HM5 := Lib.hid (hm4.set3 (.slice o4 l4 cap4))
            have hk5 := Lib.hid (e2.keep (w' := w4.setCell ⟨w.heap.size, 3, none⟩ (.slice o4 l4 cap4)) (by simp [World.setCell]) fun i hi _ => Below.heap_setCell _ _ _ _ (by
              rcases hi with hi | hi
              · simp; omega
              · simpa using okb_lt hi))
            have HOW : Hid (∀ k, (Value.slice o4 l4 cap4).ownBlock = some k → Wk.heap.size ≤ k) := fun k hk => (e2.own hk).1
            have HAG : Hid (Wk.heap.size ≤ (w4.setCell ⟨w.heap.size, 3, none⟩ (.slice o4 l4 cap4)).heap.size ∧ ∀ i, i < Wk.heap.size → i ≠ w.heap.size → (w4.setCell ⟨w.heap.size, 3, none⟩ (.slice o4 l4 cap4)).heap[i]? = Wk.heap[i]?) := by
              refine ⟨by have := e3.size; simp [World.setCell]; omega, fun i hi hne => ?_⟩
              refine (Below.heap_setCell _ _ _ _ (by simpa using hne)).trans ((e3.block i (by omega) fun e => by have := hown.out i e.symm; omega).trans ((hb3.block i (by omega)).trans ((hb2.block i (by omega)).trans (hag.out.2 i hi hne))))
            have HE1 := Lib.hid e1
            obtain ⟨q0, q1, q2, q3, qf, ql⟩ := hm2.cells
            obtain ⟨p0, p1, p2, p3, pf, pl⟩ := hm4.cells
            clear hr hb2 hb3 hm2 hm3 hk3 hs2 hs3 hsk hwk hu3 hlu e1 e2 e3 hown3 hgb hm4 e0
            go_wp2_with (at_builtin; refine Lib.wpList_append_run _ rfl (.tmp 171) (.tmp 173) _ _ rfl _ _ rfl rfl _ w4 HE1.out ?_)
            go_roundw
            case rel => exact ⟨j + 1, by omega, by go_num, us ++ [u], _, by simp [husl], HR2.out, HM5.out, hk5.out, HOW.out, HAG.out⟩
            case measure => simp [intOf]; omega
        · have HFI : Hid (res = some (mkT k a c2 us) ∧ LiesP wr (fun j => P j ∨ w.heap.size ≤ j) (mkT k a c2 us) w.heap.size ∧ Below w.heap.size w wr) := by
            have hke : j = KL.length := by have := HLEN.out; omega
            have h1 := hren.out
            rw [hke, List.take_length] at h1
            refine ⟨by rw [HRES.out, h1]; rfl, hmid.out.fin (hkids.out.lower HWK.out) (by omega), hmid.out.hb⟩
          go_wp2_with fail
          go_ret2
          rw [HFI.out.1]
          exact ⟨HFI.out.2.2, _, rfl, HFI.out.2.1⟩

end Go.Proofs.Ytfcadppidgkoaaa
