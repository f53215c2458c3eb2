/- The walk of the program's WaitingOver. -/
import Derived.Test.YtonfbnbfbdcmhaaMachW
namespace Go.Proofs.Ytonfbnbfbdcmhaa
open Go.RowKit Go.Proofs.YtonfbnbfbdcmhaaW.PrintWords Go.Proofs.YtonfbnbfbdcmhaaW.PrintMore Go.Proofs.Ytonfbnbfbdcmhaa.Pterm
set_option linter.unusedVariables false
set_option linter.unusedSimpArgs false

def hasB (t : Tm) (k c : UInt8) : Bool := t.ways.any fun x => x.1 == k && x.2.1 == c
def cntB (ws : List (List UInt8)) (k c : UInt8) : Nat := ws.countP fun l => hasB (parsed l).1 k c
theorem cnt_take (ws : List (List UInt8)) (k c : UInt8) (i : Nat) (h : i < ws.length) : cntB (ws.take (i + 1)) k c = cntB (ws.take i) k c + if hasB (parsed ws[i]).1 k c = true then 1 else 0 := by
  unfold cntB
  rw [List.take_succ_eq_append_getElem h, List.countP_append, List.countP_singleton]
theorem cnt_le (ws : List (List UInt8)) (k c : UInt8) : cntB ws k c ≤ ws.length := List.countP_le_length
def oneL : List UInt8 → Bool | [c] => isLet c | _ => false
theorem oneL_eq {l : List UInt8} (h : oneL l = true) : ∃ c, l = [c] ∧ isLet c = true := by
  match l, h with
  | [c], h => exact ⟨c, rfl, h⟩
theorem isName1_calls (l : List UInt8) (w : World) (hl : l.length ≤ 140737488351232) : Calls Try.prog 62 #[.string (B l)] w fun e w' => e = .returned (.bool (oneL l)) ∧ w = w' := by
  have hz : (B l).size = l.length := B_size l
  by_cases h1 : l.length = 1
  · obtain ⟨c, rfl⟩ := List.length_eq_one_iff.mp h1
    clear h1
    have hz : (B [c]).size = 1 := B_size [c]
    have hlt : 0 < (B [c]).size := by omega
    have hbk : (((B [c])[0]'hlt).toNat : Int) = vl c := rfl
    go_enter Try.func62, Try.ntmps62
    go_wp2_with fail
    refine (isLetter_calls c _).mono ?_
    rintro e w' ⟨rfl, rfl⟩
    go_wp2_with fail
    go_ret
    exact ⟨rfl, rfl⟩
  · have HO : Hid (oneL l = false) := by
      match l, h1 with
      | [], _ => rfl
      | a :: b :: l, _ => rfl
    have e1 : ((l.length : Int) == 1) = false := by rw [beq_eq_false_iff_ne]; omega
    go_enter Try.func62, Try.ntmps62
    go_wp2_with fail
    go_ret
    exact ⟨by rw [HO.out]; rfl, rfl⟩

section
variable (kb nb : Nat)
theorem idxOVER (wb : World) (N : Nat) (v : Value) (L : List (UInt8 × UInt8 × UInt8)) (hL : L.length ≤ 1000) (hv : WaysAt wb N v L) (p : UInt8 × UInt8 × UInt8 → Bool)
    (step : ∀ (k a b : UInt8) (q : Option Addr) (w : World), Below wb.heap.size wb w → Calls Try.prog 66 #[.agg #[.int .u8 (vl k), .int .u8 (vl a), .int .u8 (vl b), .pointer q], .pointer (some ⟨kb, 0, none⟩), .pointer (some ⟨nb, 0, none⟩)] w fun e w' => e = .returned (.bool (p (k, a, b))) ∧ Below w.heap.size w w') :
    Calls Try.prog 104 #[v, (.func (.func 66) #[] #[.pointer (some ⟨kb, 0, none⟩), .pointer (some ⟨nb, 0, none⟩)])] wb fun e w' => ∃ z : Int, e = .returned (.int .i64 z) ∧ decide (0 ≤ z) = L.any p ∧ Below wb.heap.size wb w' := by
  obtain ⟨o, cap, rfl, hcap, hk⟩ := hv.at
  have HK := Lib.hid hk
  have HS := Lib.hid step
  clear hk step hv
  go_enter Try.func104, Try.ntmps104
  go_wp2_with fail
  go_loopw [8] (fun i wr => ∃ k : Nat, k ≤ L.length ∧ i = .int .i64 k ∧ (L.drop k).any p = L.any p ∧ Below wb.heap.size wb wr) (fun i _ => L.length - (intOf i).toNat)
  case atStart => exact ⟨0, Nat.zero_le _, rfl, rfl, Below.refl _ _⟩
  case round =>
    obtain ⟨k, hk, rfl, hany, hbr⟩ := hrel
    have HA := Lib.hid hany
    have HB := Lib.hid hbr
    clear hany
    by_cases hlt : k < L.length
    · obtain ⟨g, q, rfl, e0, e1, e2, e3⟩ := HK.out k hlt
      obtain ⟨x, hx⟩ : ∃ x, x = L[k] := ⟨_, rfl⟩
      rw [← hx] at e0 e1 e2
      have c0 := (hbr.cell (World.block_lt_of_cell? wb _ e0)).trans e0
      have c1 := (hbr.cell (World.block_lt_of_cell? wb _ e1)).trans e1
      have c2 := (hbr.cell (World.block_lt_of_cell? wb _ e2)).trans e2
      have c3 := (hbr.cell (World.block_lt_of_cell? wb _ e3)).trans e3
      have HD : Hid ((L.drop k).any p = (p x || (L.drop (k + 1)).any p)) := by rw [hx]; exact drop_any L p k hlt
      clear e0 e1 e2 e3 hx hbr
      go_wp2_with fail
      refine (HS.out x.1 x.2.1 x.2.2 q wr HB.out).mono ?_
      rintro e w2 ⟨rfl, hb2⟩
      have HB2 := Lib.hid (below_then HB.out HB.out.size hb2)
      clear hb2 c0 c1 c2 c3
      rcases hp : p x with _ | _
      · have hp2 : p (x.1, x.2.1, x.2.2) = false := hp
        have HA2 : Hid ((L.drop (k + 1)).any p = L.any p) := by rw [Hid, ← HA.out, HD.out, hp]; rfl
        clear hp hp2
        go_wp2_with fail
        go_roundw
        case rel => exact ⟨k + 1, by omega, by go_num, HA2.out, HB2.out⟩
        case measure => exact meas4 _ _ hlt
      · have hp2 : p (x.1, x.2.1, x.2.2) = true := hp
        have HA2 : Hid (L.any p = true) := by rw [Hid, ← HA.out, HD.out, hp]; rfl
        clear hp hp2
        go_wp2_with fail
        go_ret
        exact ⟨_, rfl, by rw [HA2.out]; exact decide_eq_true (by omega), HB2.out⟩
    · have HF : Hid (L.any p = false) := by rw [Hid, ← HA.out, List.drop_eq_nil_of_le (by omega)]; rfl
      go_wp2_with fail
      go_ret
      exact ⟨-1, rfl, by rw [HF.out]; rfl, HB.out⟩
theorem hasOVER (wb : World) (N : Nat) (v : Value) (L : List (UInt8 × UInt8 × UInt8)) (hL : L.length ≤ 1000) (hv : WaysAt wb N v L) (p : UInt8 × UInt8 × UInt8 → Bool)
    (step : ∀ (k a b : UInt8) (q : Option Addr) (w : World), Below wb.heap.size wb w → Calls Try.prog 66 #[.agg #[.int .u8 (vl k), .int .u8 (vl a), .int .u8 (vl b), .pointer q], .pointer (some ⟨kb, 0, none⟩), .pointer (some ⟨nb, 0, none⟩)] w fun e w' => e = .returned (.bool (p (k, a, b))) ∧ Below w.heap.size w w') :
    Calls Try.prog 64 #[v, (.func (.func 66) #[] #[.pointer (some ⟨kb, 0, none⟩), .pointer (some ⟨nb, 0, none⟩)])] wb fun e w' => e = .returned (.bool (L.any p)) ∧ Below wb.heap.size wb w' := by
  have HC := Lib.hid (idxOVER kb nb wb N v L hL hv p step)
  clear step hv
  go_enter Try.func64, Try.ntmps64
  go_wp2_with fail
  refine HC.out.mono ?_
  rintro e w2 ⟨z, rfl, hz, hb⟩
  have HZ := Lib.hid hz
  clear hz
  go_wp2_with fail
  go_ret
  exact ⟨by rw [← HZ.out]; rfl, hb⟩
end
set_option maxHeartbeats 1000000 in
theorem over1_calls (kk c : UInt8) (k a b : UInt8) (q : Option Addr) (w : World) (kb nb : Nat) (hk : w.cell? ⟨kb, 0, none⟩ = some (.int .u8 (vl kk))) (hn : w.cell? ⟨nb, 0, none⟩ = some (.string (B [c]))) :
    Calls Try.prog 66 #[.agg #[.int .u8 (vl k), .int .u8 (vl a), .int .u8 (vl b), .pointer q], .pointer (some ⟨kb, 0, none⟩), .pointer (some ⟨nb, 0, none⟩)] w fun e w' => e = .returned (.bool (k == kk && a == c)) ∧ Below w.heap.size w w' := by
  have hz : (B [c]).size = 1 := B_size [c]
  have hlt : 0 < (B [c]).size := by omega
  have hbk : (((B [c])[0]'hlt).toNat : Int) = vl c := rfl
  have hb : Below w.heap.size w (w.alloc (.cells #[.int .u8 (vl k), .int .u8 (vl a), .int .u8 (vl b), .pointer q] 80)) := below_alloc (Below.refl _ _) _
  have hkl : kb < w.heap.size := World.block_lt_of_cell? w _ hk
  have hnl : nb < w.heap.size := World.block_lt_of_cell? w _ hn
  have HV : Hid ((k == kk && a == c) = ((vl k == vl kk) && (vl a == vl c))) := by rw [Hid, vlBeq, vlBeq]
  rcases h1 : (vl k == vl kk) with _ | _
  · go_enter Try.func66, Try.ntmps66
    go_wp2_with fail
    go_quiet (fail)
    go_wp2_with fail
    go_ret
    exact ⟨by rw [HV.out, h1]; rfl, pw_below_drewN hb _⟩
  · go_enter Try.func66, Try.ntmps66
    go_wp2_with fail
    go_quiet (fail)
    go_wp2_with fail
    go_ret
    exact ⟨by rw [HV.out, h1]; rfl, pw_below_drewN hb _⟩
set_option maxHeartbeats 1000000 in
theorem has_calls (t : Tm) (kk c : UInt8) (hs : t.size ≤ 100) (hw : Wf isLet t) (w : World) (N x tb nb : Nat) (hl : Lies w N t x) (ht : w.cell? ⟨tb, 0, none⟩ = some (.pointer (some ⟨x, 0, none⟩))) (hn : w.cell? ⟨nb, 0, none⟩ = some (.string (B [c]))) :
    Calls Try.prog 63 #[.int .u8 (vl kk), .pointer (some ⟨tb, 0, none⟩), .pointer (some ⟨nb, 0, none⟩)] w fun e w' => e = .returned (.bool (hasB t kk c)) ∧ Below w.heap.size w w' := by
  have hwl := ways_len t
  have HL : Hid (t.ways.length ≤ 1000) := by simp only [Hid]; omega
  have hba : Below w.heap.size w (w.alloc (.cells #[.int .u8 (vl kk)] 5)) := below_alloc (Below.refl _ _) _
  have hblk := heap_alloc_new w (.cells #[.int .u8 (vl kk)] 5)
  obtain ⟨wa, hwa⟩ : ∃ wa, w.alloc (.cells #[.int .u8 (vl kk)] 5) = wa := ⟨_, rfl⟩
  rw [hwa] at hba hblk
  have k0 : wa.cell? ⟨w.heap.size, 0, none⟩ = some (.int .u8 (vl kk)) := blk_cell hblk 0
  have t0 := (hba.cell (World.block_lt_of_cell? w _ ht)).trans ht
  have n0 := (hba.cell (World.block_lt_of_cell? w _ hn)).trans hn
  have hla := hl.below hba
  have hkl : w.heap.size < wa.heap.size := blk_lt hblk
  have hnl : nb < wa.heap.size := World.block_lt_of_cell? wa _ n0
  clear hwl hblk ht hn hl
  go_enter Try.func63, Try.ntmps63
  go_wp2_with fail
  clear hwa
  refine (ways_calls t _ N _ hs hw hla).mono ?_
  rintro e w2 ⟨v, rfl, hv, hb2⟩
  have HB2 := Lib.hid hb2
  have HC := Lib.hid (hasOVER w.heap.size nb w2 _ v t.ways HL.out hv (fun z => z.1 == kk && z.2.1 == c) fun k a b q w' hb' => over1_calls kk c k a b q w' w.heap.size nb ((hb'.cell (Nat.lt_of_lt_of_le hkl hb2.size)).trans ((hb2.cell hkl).trans k0)) ((hb'.cell (Nat.lt_of_lt_of_le hnl hb2.size)).trans ((hb2.cell hnl).trans n0)))
  clear hv hb2
  go_wp2_with fail
  refine HC.out.mono ?_
  rintro e w3 ⟨rfl, hb3⟩
  go_wp2_with fail
  go_ret
  exact ⟨rfl, below_then (below_then hba hba.size HB2.out) (Nat.le_trans hba.size HB2.out.size) hb3⟩

def overV (own : List UInt8) (ready waiting : List (List UInt8)) (nm : List UInt8) : Nat × Nat × Bool := if machB own ready waiting = true ∧ oneL nm = true then (cntB waiting 33 (nm.headD 0), cntB waiting 63 (nm.headD 0), true) else (0, 0, false)
theorem waitsB_simple : ∀ (ws : List (List UInt8)) (prev : List Tm), waitsB prev ws = true → ∀ l, l ∈ ws → simpleOk l = true := by
  intro ws
  induction ws with
  | nil => intro prev _ l hl; cases hl
  | cons a ws ih =>
    intro prev h l hl
    simp only [waitsB, Bool.and_eq_true] at h
    rcases List.mem_cons.mp hl with rfl | hl
    · exact h.1.1
    · exact ih _ h.2 l hl
theorem machB_simple {own : List UInt8} {ready waiting : List (List UInt8)} (h : machB own ready waiting = true) : (∀ l, l ∈ waiting → simpleOk l = true) ∧ waiting.length ≤ 40 := by
  simp only [machB, Bool.and_eq_true, decide_eq_true_eq] at h
  exact ⟨waitsB_simple waiting [] h.2.2, by omega⟩

set_option maxHeartbeats 4000000 in
set_option maxRecDepth 100000 in
theorem WaitingOver_calls (own : List UInt8) (ready waiting : List (List UInt8)) (nm : List UInt8) (oR oW : Option Addr) (cR cW : Nat) (w : World) (hR : Strs w oR ready) (hW : Strs w oW waiting) (lo : own.length ≤ 1100000) (lr : ready.length ≤ 1100000) (lw : waiting.length ≤ 1100000) (hn : nm.length ≤ 140737488351232)
    (sr : ∀ l, l ∈ ready → l.length ≤ 1100000) (sw : ∀ l, l ∈ waiting → l.length ≤ 1100000) :
    Calls Try.prog 30 #[.agg #[.string (B own), .slice oR ready.length cR, .slice oW waiting.length cW], .string (B nm)] w fun e w' => e = .returned (.tuple #[.int .i64 ((overV own ready waiting nm).1 : Nat), .int .i64 ((overV own ready waiting nm).2.1 : Nat), .bool (overV own ready waiting nm).2.2]) ∧ Below w.heap.size w w' := by
  obtain ⟨wa, hwa⟩ : ∃ wa, (w.alloc (.cells #[.string (B own), .slice oR ready.length cR, .slice oW waiting.length cW] 35)).alloc (.cells #[.string (B nm)] 9) = wa := ⟨_, rfl⟩
  have hb1 : Below w.heap.size w (w.alloc (.cells #[.string (B own), .slice oR ready.length cR, .slice oW waiting.length cW] 35)) := below_alloc (Below.refl _ _) _
  have hba : Below w.heap.size w wa := by rw [← hwa]; exact below_alloc hb1 _
  have hmb : wa.heap[w.heap.size]? = some (.cells #[.string (B own), .slice oR ready.length cR, .slice oW waiting.length cW] 35 (0, 0)) := by rw [← hwa]; exact blk_alloc (heap_alloc_new w _) _
  have hm : MacAt w wa w.heap.size own ready waiting oR oW cR cW := ⟨hmb, hR, hW, hba, rfl⟩
  have hnb : wa.heap[w.heap.size + 1]? = some (.cells #[.string (B nm)] 9 (0, 0)) := by
    rw [← hwa]
    have := heap_alloc_new (w.alloc (.cells #[.string (B own), .slice oR ready.length cR, .slice oW waiting.length cW] 35)) (.cells #[.string (B nm)] 9)
    simpa using this
  have n0 : wa.cell? ⟨w.heap.size + 1, 0, none⟩ = some (.string (B nm)) := blk_cell hnb 0
  have hnl := blk_lt hnb
  have HM := Lib.hid hm
  obtain ⟨c0, c1, c2⟩ := hm.cells
  have HC := Lib.hid (IsMachine_calls own ready waiting oR oW cR cW wa hm.rd hm.wt lo lr lw sr sw)
  have HSW := Lib.hid sw
  clear hR hW sr sw hb1 hmb hm hnb
  go_enter Try.func30, Try.ntmps30
  go_wp2_with fail
  refine HC.out.mono ?_
  rintro e w1 ⟨rfl, hb1⟩
  have HM1 := Lib.hid (HM.out.below hb1)
  have n1 := (hb1.cell hnl).trans n0
  obtain ⟨d0, d1, d2⟩ := HM1.out.cells
  have HNL : Hid (w.heap.size + 1 < w1.heap.size) := Nat.lt_of_lt_of_le hnl hb1.size
  clear c0 c1 c2 n0 hnl hb1 HM HC hba hwa
  rcases hmm : machB own ready waiting with _ | _
  · have HV : Hid (overV own ready waiting nm = (0, 0, false)) := by simp [Hid, overV, hmm]
    clear hmm
    go_wp2_with fail
    go_ret3
    exact ⟨by rw [HV.out]; rfl, HM1.out.hb⟩
  have HMM := Lib.hid hmm
  clear hmm
  go_wp2_with fail
  refine (isName1_calls nm _ hn).mono ?_
  rintro e w' ⟨rfl, rfl⟩
  rcases hnn : oneL nm with _ | _
  · have HV : Hid (overV own ready waiting nm = (0, 0, false)) := by simp [Hid, overV, hnn]
    clear hnn
    go_wp2_with fail
    go_ret3
    exact ⟨by rw [HV.out]; rfl, HM1.out.hb⟩
  obtain ⟨c, rfl, hcl⟩ := oneL_eq hnn
  have HV : Hid (overV own ready waiting [c] = (cntB waiting 33 c, cntB waiting 63 c, true)) := by simp [Hid, overV, hnn, HMM.out]
  have HSI := Lib.hid (machB_simple HMM.out)
  have hwl := HSI.out.2
  clear hnn hcl HMM
  go_wp2_with fail
  have HN1 := Lib.hid n1
  clear n1
  go_loopw [7, 8, 25] (fun a b i wr => ∃ k : Nat, k ≤ waiting.length ∧ i = .int .i64 k ∧ a = .int .i64 ((cntB (waiting.take k) 33 c : Nat) : Int) ∧ b = .int .i64 ((cntB (waiting.take k) 63 c : Nat) : Int) ∧ MacAt w wr w.heap.size own ready waiting oR oW cR cW ∧ wr.cell? ⟨w.heap.size + 1, 0, none⟩ = some (.string (B [c]))) (fun _ _ i _ => waiting.length - (intOf i).toNat)
  case atStart => exact ⟨0, Nat.zero_le _, rfl, rfl, rfl, HM1.out, HN1.out⟩
  case round =>
    obtain ⟨k, hk, rfl, rfl, rfl, hm, hn0⟩ := hrel
    clear HM1 HN1 d0 d1 d2 HNL
    have HMR := Lib.hid hm
    have hwt := hm.wt
    clear hm
    have hc1 := cnt_le (waiting.take k) 33 c
    have hc2 := cnt_le (waiting.take k) 63 c
    rw [List.length_take] at hc1 hc2
    by_cases hlt : k < waiting.length
    · obtain ⟨g, rfl, e0⟩ := hwt k hlt
      have h33 := cnt_take waiting 33 c k hlt
      have h63 := cnt_take waiting 63 c k hlt
      obtain ⟨l, hl⟩ : ∃ l, waiting[k] = l := ⟨_, rfl⟩
      have HSZ : Hid (l.length ≤ 1100000) := HSW.out l (by rw [← hl]; exact List.getElem_mem hlt)
      have HOK : Hid (simpleOk l = true) := HSI.out.1 l (by rw [← hl]; exact List.getElem_mem hlt)
      rw [hl] at e0 h33 h63
      obtain ⟨n33, hn33⟩ : ∃ n, cntB (waiting.take k) 33 c = n := ⟨_, rfl⟩
      obtain ⟨n63, hn63⟩ : ∃ n, cntB (waiting.take k) 63 c = n := ⟨_, rfl⟩
      rw [hn33] at h33 hc1 ⊢
      rw [hn63] at h63 hc2 ⊢
      have H33 := Lib.hid h33
      have H63 := Lib.hid h63
      clear hl hwt h33 h63 hn33 hn63
      have HN0 := Lib.hid hn0
      have HNL := Lib.hid (World.block_lt_of_cell? wr _ hn0)
      clear hn0
      go_wp2_with fail
      refine (read_calls l _ (by have := HSZ.out; omega)).mono ?_
      rintro e w2 ⟨hb2, p, rfl, hp⟩
      obtain ⟨x, rfl, hlx⟩ := hp (simpleOk_read HOK.out)
      obtain ⟨hq5, hq6, hwf, htz⟩ := read_good (simpleOk_read HOK.out)
      obtain ⟨t, ht⟩ : ∃ t, (parsed l).1 = t := ⟨_, rfl⟩
      rw [ht] at hlx hwf htz H33 H63
      have HLX := Lib.hid hlx
      have HT : Hid (t.size ≤ 100 ∧ Wf isLet t) := ⟨by omega, hwf⟩
      have HM2 := Lib.hid (HMR.out.below hb2)
      have HN2 := Lib.hid ((hb2.cell HNL.out).trans HN0.out)
      have hrk : readOk l = true := simpleOk_read HOK.out
      rw [hrk]
      clear hrk hp hq5 hq6 hwf htz ht hlx hb2 e0 HN0 HNL HMR HSZ HOK
      go_wp2_with fail
      obtain ⟨w3, hw3⟩ : ∃ w3, w2.alloc (.cells #[.pointer (some ⟨x, 0, none⟩)] 49) = w3 := ⟨_, rfl⟩
      have hb3 : Below w2.heap.size w2 w3 := by rw [← hw3]; exact below_alloc (Below.refl _ _) _
      have hblk : w3.heap[w2.heap.size]? = some (.cells #[.pointer (some ⟨x, 0, none⟩)] 49 (0, 0)) := by rw [← hw3]; exact heap_alloc_new w2 _
      have HTC : Hid (w3.cell? ⟨w2.heap.size, 0, none⟩ = some (.pointer (some ⟨x, 0, none⟩))) := blk_cell hblk 0
      have HTL : Hid (w2.heap.size < w3.heap.size) := blk_lt hblk
      have HLX3 := Lib.hid (HLX.out.below hb3)
      have HM3 := Lib.hid (HM2.out.below hb3)
      have hnl2 := World.block_lt_of_cell? w2 _ HN2.out
      have HN3 := Lib.hid ((hb3.cell hnl2).trans HN2.out)
      have HNL3 : Hid (w.heap.size + 1 < w3.heap.size) := Nat.lt_of_lt_of_le hnl2 hb3.size
      rw [hw3]
      clear hw3 hb3 hblk hnl2 HM2 HN2 HLX
      refine (has_calls t 33 c HT.out.1 HT.out.2 w3 _ x _ _ HLX3.out HTC.out HN3.out).mono ?_
      rintro e w4 ⟨rfl, hb4⟩
      have HM4 := Lib.hid (HM3.out.below hb4)
      have HLX4 := Lib.hid (HLX3.out.below hb4)
      have HTC4 := Lib.hid ((hb4.cell HTL.out).trans HTC.out)
      have HN4 := Lib.hid ((hb4.cell HNL3.out).trans HN3.out)
      have HNL4 : Hid (w.heap.size + 1 < w4.heap.size) := Nat.lt_of_lt_of_le HNL3.out hb4.size
      clear hb4 HM3 HLX3 HTC HN3 HTL HNL3
      rcases h1 : hasB t 33 c with _ | _
      all_goals
        rw [h1] at H33
        clear h1
        go_wp2_with fail
        refine (has_calls t 63 c HT.out.1 HT.out.2 w4 _ x _ _ HLX4.out HTC4.out HN4.out).mono ?_
        rintro e w5 ⟨rfl, hb5⟩
        have HM5 := Lib.hid (HM4.out.below hb5)
        have HN5 := Lib.hid ((hb5.cell HNL4.out).trans HN4.out)
        clear hb5
        rcases h2 : hasB t 63 c with _ | _
        all_goals
          rw [h2] at H63
          clear h2
          go_wp2_with fail
          go_roundw
          case rel => exact ⟨k + 1, by omega, by go_num, by rw [H33.out]; first | rfl | go_num | (congr 1; omega), by rw [H63.out]; first | rfl | go_num | (congr 1; omega), HM5.out, HN5.out⟩
          case measure => exact meas4 _ _ hlt
    · have hke : k = waiting.length := by omega
      have HV2 : Hid (overV own ready waiting [c] = (cntB (waiting.take k) 33 c, cntB (waiting.take k) 63 c, true)) := by rw [Hid, HV.out, hke, List.take_length]
      clear hke hwt
      go_wp2_with fail
      go_ret3
      exact ⟨by rw [HV2.out]; rfl, HMR.out.hb⟩

end Go.Proofs.Ytonfbnbfbdcmhaa
