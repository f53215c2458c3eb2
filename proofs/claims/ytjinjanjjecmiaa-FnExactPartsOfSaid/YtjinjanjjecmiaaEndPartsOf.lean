/- The law FnExactPartsOf, walked: the program's answer is the reference's. -/
import Derived.Test.YtjinjanjjecmiaaMarkFnExactPartsOf
import Derived.Test.YtjinjanjjecmiaaRefsFnExactPartsOf
import Derived.Test.YtjinjanjjecmiaaReads
import Derived.Test.YtjinjanjjecmiaaTextW
namespace Go.Proofs.Ytjinjanjjecmiaa.PFnExactPartsOf
open Go.RowKit Go.Proofs.YtjinjanjjecmiaaW.PrintWords Go.Proofs.YtjinjanjjecmiaaW.PrintLast Go.Proofs.YtjinjanjjecmiaaW.PrintMore Go.Proofs.Ytjinjanjjecmiaa.Pterm
set_option linter.unusedVariables false
set_option linter.unusedSimpArgs false

/-- The parts' texts. -/
def txs (l : List Tm) : List ByteArray := l.map fun u => B u.text
def prt (l : List UInt8) : List ByteArray := if readOk l = true then txs (parsed l).1.kids else []
theorem prt_len (l : List UInt8) : (prt l).length ≤ 2 := by
  unfold prt txs
  split
  · rw [List.length_map]; cases (parsed l).1 <;> simp [Tm.kids]
  · simp
theorem txs_take_succ (l : List Tm) (i : Nat) (h : i < l.length) : txs (l.take (i + 1)) = txs (l.take i) ++ [B l[i].text] := by
  unfold txs; rw [List.take_succ_eq_append_getElem h, List.map_append]; rfl
theorem txs_len (l : List Tm) : (txs l).length = l.length := by simp [txs]
theorem kid_tx (t : Tm) (i : Nat) (h : i < t.kids.length) : t.kids[i].text.length ≤ t.text.length := by
  cases t with
  | leaf => simp [Tm.kids] at h
  | un => simp [Tm.kids] at h; subst h; simp [Tm.kids, Tm.text]
  | bin => simp [Tm.kids] at h; rcases (by omega : i = 0 ∨ i = 1) with rfl | rfl <;> simp [Tm.kids, Tm.text] <;> omega
theorem kid_wfp {P : UInt8 → Bool} {t : Tm} (h : Wf P t) (i : Nat) (hi : i < t.kids.length) : Wf P t.kids[i] := by
  cases t with
  | leaf => simp [Tm.kids] at hi
  | un => simp [Tm.kids] at hi; subst hi; exact h.2
  | bin => simp [Tm.kids] at hi; rcases (by omega : i = 0 ∨ i = 1) with rfl | rfl
           · exact h.2.2.2.1
           · exact h.2.2.2.2

set_option maxHeartbeats 2000000 in
theorem PartsOf_calls (l : List UInt8) (w : World) (hl : l.length ≤ 140737488351232) :
    Calls Try.prog 28 #[.string (B l)] w fun e w' => ∃ v : Value, e = .returned (.tuple #[v, .bool (readOk l)]) ∧ Kd.R Kd.string 9 w' w.heap.size (fun _ => True) v (prt l) ∧ Below w.heap.size w w' := by
  go_enter Try.func28, Try.ntmps28
  go_wp2_with fail
  refine (read_calls l w hl).mono ?_
  rintro e w1 ⟨hb, p, rfl, hp⟩
  rcases hok : readOk l with _ | _
  · have hv : Hid (prt l = []) := by simp [Hid, prt, hok]
    have HO := Lib.hid hok
    clear hok hp
    go_wp2_with fail
    go_ret2
    exact ⟨.slice none 0 0, by rw [HO.out]; rfl, by rw [hv.out]; exact Kd.R_nil _ _ _ _ _, hb⟩
  · have hv : Hid (prt l = txs (parsed l).1.kids) := by simp [Hid, prt, hok]
    obtain ⟨b, rfl, hli⟩ := hp hok
    have HO := Lib.hid hok
    have HG := Lib.hid (read_good hok)
    obtain ⟨o, cap, _, _, _, c3, hk⟩ := hli.at
    have HL := Lib.hid hli
    have HK := Lib.hid hk
    have HB := Lib.hid hb
    have hlen : (parsed l).1.kids.length ≤ 2 := by cases (parsed l).1 <;> simp [Tm.kids]
    clear hok hp hli hk hb
    go_upto_region 5 with fail
    obtain ⟨w2, hW2⟩ : ∃ w2, w2 = w1.alloc (.cells #[] 9) := ⟨_, rfl⟩
    rw [← hW2]
    have HR0 : Hid (Kd.R Kd.string 9 w2 w1.heap.size (fun _ => True) (.slice (some ⟨w1.heap.size, 0, none⟩) 0 0) (txs ((parsed l).1.kids.take 0))) := by rw [hW2]; exact row_new w1 w1.heap.size [] (Nat.le_refl _) (by simp)
    have HB0 : Hid (Below w1.heap.size w1 w2) := by rw [hW2]; exact (Below.refl _ _).alloc (Nat.le_refl _) _
    have d3 : w2.cell? ⟨b, 3, none⟩ = some (.slice o (parsed l).1.kids.length cap) := (HB0.out.cell HL.out.lt).trans c3
    clear hW2 c3
    go_wp2_with fail
    go_loopw [6, 22] (fun ot i wr => ∃ (j : Nat) (v : Value), j ≤ (parsed l).1.kids.length ∧ i = .int .i64 j ∧ ot = v ∧ Kd.R Kd.string 9 wr w1.heap.size (fun _ => True) v (txs ((parsed l).1.kids.take j)) ∧ Below w1.heap.size w1 wr) (fun _ i _ => (parsed l).1.kids.length - (intOf i).toNat)
    case atStart => exact ⟨0, _, Nat.zero_le _, rfl, rfl, HR0.out, HB0.out⟩
    case round =>
      obtain ⟨j, v, hj, rfl, rfl, hr, hbr⟩ := hrel
      obtain ⟨Av, cv, rfl⟩ := Kd.R_slice hr
      have HR := Lib.hid hr
      have HBr := Lib.hid hbr
      clear hr hbr
      by_cases hlt : j < (parsed l).1.kids.length
      · obtain ⟨r, x, rfl, hc, hx⟩ := HK.out j hlt
        have hc2 := (HBr.out.cell (World.block_lt_of_cell? w1 _ hc)).trans hc
        have hxr := hx.below HBr.out
        have htx := text_any 61 (parsed l).1.kids[j] wr _ x (by have := kid_le (parsed l).1 j hlt; have := HG.out.2.2.2; omega) (kid_wfp HG.out.2.2.1 j hlt) (by have h1 := HG.out.1; have h2 := congrArg List.length HG.out.2.1; have := kid_tx (parsed l).1 j hlt; omega) hxr
        have HT := Lib.hid (txs_take_succ (parsed l).1.kids j hlt)
        have hjl : Hid ((txs ((parsed l).1.kids.take j)).length ≤ 2) := by show _ ≤ _; rw [txs_len, List.length_take]; omega
        clear hc hx hxr
        go_wp2_with fail
        refine htx.mono ?_
        rintro e w3 ⟨rfl, hb3⟩
        have HR3 := Lib.hid (Kd.R_below HR.out hb3)
        have HB3 := Lib.hid (below_then HBr.out HBr.out.size hb3)
        clear htx hb3 hc2
        go_wp2_with (first | ((with_reducible refine gate_dst (N := 30) rfl ?_); refine Kd.R_append Kd.string (w0 := w1) (W := w3) w1.heap.size (by rfl) _ _ 30 9 (.string ⟨#[]⟩) 16 (by rfl) Try.underlying30 (by kernel_rfl) (by rfl) (by decide) (by omega) (.slice Av (txs ((parsed l).1.kids.take j)).length cv) (txs ((parsed l).1.kids.take j)) (B (parsed l).1.kids[j].text) [.string (B (parsed l).1.kids[j].text)] (fun _ => True) (fun _ => False) (by rfl) (by rfl) (by rfl) (fun _ h => h.elim) (fun _ _ => trivial) HR3.out HB3.out HB3.out.size (by have := hjl.out; omega) ?_; intro v1 w4 hr4 hb4 _ _))
        have HR4 := Lib.hid hr4
        have HB4 := Lib.hid hb4
        clear hr4 hb4
        go_roundw
        case rel => exact ⟨j + 1, _, by omega, by go_num, rfl, by rw [HT.out]; exact HR4.out, HB4.out⟩
        case measure => simp [intOf]; omega
      · have HF : Hid (txs ((parsed l).1.kids.take j) = txs (parsed l).1.kids) := by
          show _ = _
          rw [List.take_of_length_le (by omega)]
        go_wp2_with fail
        go_ret2
        exact ⟨_, by rw [HO.out]; rfl, by rw [hv.out, ← HF.out]; exact Kd.R_lower HR.out HB.out.size, below_then HB.out HB.out.size HBr.out⟩

theorem spec_val (l : List UInt8) : spec_PartsOf.f 3000 (B l) = some (prt l, readOk l) := by
  unfold spec_PartsOf.f
  rw [good_f l 3000 (by omega), Option.bind_some]
  rcases hok : readOk l with _ | _
  · simp [prt, hok]
  · obtain ⟨h1, h2, h3, h4⟩ := read_good hok
    have e := parts_text (t := (parsed l).1) (k := 3000) (Wf.names (fun c => let_name) h3) (by rw [← h2]; omega) (by omega)
    rw [← h2] at e
    simp [e, prt, hok, txs]

theorem below_step2 {a w w' : World} {N : Nat} (h : Below N a w) (k : Below N w w') : Below N a w' := by
  obtain ⟨p, q, r, t, u⟩ := h
  obtain ⟨p', q', r', t', u'⟩ := k
  exact ⟨p'.trans p, q'.trans q, r'.trans r, Nat.le_trans t t', fun i hi => (u' i hi).trans (u i hi)⟩

set_option maxHeartbeats 2000000 in
theorem law_walk (s : ByteArray) (w : World) (hs : s.size ≤ 140737488351232) :
    Calls Try.prog 9 #[.string s] w fun e w' => e = .returned (.bool true) ∧ Below w.heap.size w w' := by
  obtain ⟨l, rfl⟩ := B_of s
  have hz : (B l).size = l.length := B_size l
  rw [hz] at hs
  by_cases hbig : l.length > 1048576
  · go_enter Try.func9, Try.ntmps9
    go_wp2_with fail
    go_ret
    exact ⟨rfl, Below.refl _ _⟩
  · have HF := Lib.hid (spec_val l)
    have hlen := prt_len l
    go_enter Try.func9, Try.ntmps9
    go_wp2_with fail
    refine (spec_PartsOf.calls 3000 (B l) _ _ _ HF.out).mono ?_
    rintro e w1 ⟨v1, rfl, R1, hb1⟩
    obtain ⟨A1, c1, rfl⟩ := Kd.R_slice R1
    have K1 := Lib.hid (Kd.R_reads' R1).2
    have HB := Lib.hid hb1
    clear R1 hb1 HF
    go_wp2_with fail
    refine (PartsOf_calls l w1 hs).mono ?_
    rintro e w3 ⟨v3, rfl, R3, hb3⟩
    obtain ⟨A3, c3, rfl⟩ := Kd.R_slice R3
    have HR3 := Lib.hid R3
    have HB3 := Lib.hid hb3
    clear R3 hb3
    have heq := laws_eqStringS.calls 3000 A3 c3 (prt l) A1 c1 (prt l) true w3 (Kd.R_reads' HR3.out).2.2 (Kd.R_reads' HR3.out).2.1 (Kd.C_below K1.out.2 HB3.out) K1.out.1 (eq_f _ 3000 (by omega) (by omega))
    go_wp2_with fail
    refine heq.mono ?_
    rintro e w5 ⟨rfl, hd5⟩
    have hb5 := hd5.below
    have HB5 := Lib.hid (below_then HB3.out HB3.out.size hb5)
    have HR5 := Lib.hid (Kd.R_below HR3.out hb5)
    have hmk := mark_calls w1.heap.size (fun _ => True) (.slice A3 (prt l).length c3) (prt l) 1 w5 (by omega) HR5.out HB5.out.size
    clear heq hd5 hb5 HB3
    go_wp2_with fail
    refine hmk.mono ?_
    rintro e w6 ⟨rfl, ⟨m, hm, hr⟩, hg, hb6⟩
    have HB6 := Lib.hid (below_step2 HB5.out hb6)
    have HM := Lib.hid hm
    have HR6 := Lib.hid hr
    have hh := laws_heldStringS.calls 3000 A3 c3 m 1 _ w6 (Kd.R_reads' hr).2.2 (by rw [hm.1]; exact (Kd.R_reads' HR3.out).2.1) (held_f m _ 1 3000 (by omega) hm (by omega))
    rw [hm.1] at hh
    clear hmk hm hr hg hb6 HR5 HB5
    go_wp2_with fail
    refine hh.mono ?_
    rintro e w7 ⟨rfl, hb7⟩
    have HB7 := Lib.hid (below_then HB6.out HB6.out.size hb7)
    have HR7 := Lib.hid (Kd.R_below HR6.out hb7)
    have hst := PartsOf_calls l w7 hs
    clear hh hb7 HR6 HB6
    go_wp2_with fail
    refine hst.mono ?_
    rintro e w8 ⟨v8, rfl, R8, hb8⟩
    obtain ⟨A8, c8, rfl⟩ := Kd.R_slice R8
    have HB8 := Lib.hid (below_then HB7.out HB7.out.size hb8)
    have HR8 := Lib.hid R8
    have HR7b := Lib.hid (Kd.R_below HR7.out hb8)
    clear hst R8 HR7 hb8 HB7
    have heq := laws_eqStringS.calls 3000 A8 c8 (prt l) A1 c1 (prt l) true w8 (Kd.R_reads' HR8.out).2.2 (Kd.R_reads' HR8.out).2.1 (Kd.C_below K1.out.2 HB8.out) K1.out.1 (eq_f _ 3000 (by omega) (by omega))
    go_wp2_with fail
    refine heq.mono ?_
    rintro e w10 ⟨rfl, hd10⟩
    have hb10 := hd10.below
    have HB10 := Lib.hid (below_then HB8.out HB8.out.size hb10)
    have hr10 := Kd.R_below HR7b.out hb10
    have hh := laws_heldStringS.calls 3000 A3 c3 m 1 _ w10 (Kd.R_reads' hr10).2.2 (by rw [HM.out.1]; exact (Kd.R_reads' HR3.out).2.1) (held_f m _ 1 3000 (by omega) HM.out (by omega))
    rw [HM.out.1] at hh
    clear heq hd10 hb10 hr10 HR7b HR8 HB8
    go_wp2_with fail
    refine hh.mono ?_
    rintro e w11 ⟨rfl, hb11⟩
    have HB11 := Lib.hid (below_then HB10.out HB10.out.size hb11)
    clear hh hb11
    go_wp2_with fail
    go_ret
    exact ⟨rfl, below_then HB.out HB.out.size HB11.out⟩

end Go.Proofs.Ytjinjanjjecmiaa.PFnExactPartsOf
