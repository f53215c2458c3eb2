/- canonical, all kinds together; the program's canonicalText and CanonicalNames, walked. -/
import Derived.Test.YtfcadppidgkoaaaCanV
import Derived.Test.YtfcadppidgkoaaaTextW
import Derived.Test.YtfcadppidgkoaaaReads
namespace Go.Proofs.Ytfcadppidgkoaaa
open Go.RowKit Go.Proofs.YtfcadppidgkoaaaW.PrintWords Go.Proofs.YtfcadppidgkoaaaW.PrintLast Go.Proofs.YtfcadppidgkoaaaW.PrintMore Go.Proofs.Ytfcadppidgkoaaa.Pterm
set_option linter.unusedVariables false
set_option linter.unusedSimpArgs false

theorem can_any (n : Nat) : CanUpto n := by
  induction n with
  | zero => intro t e p w P T b h; have := t.size_pos; omega
  | succ n ih =>
    intro t e p w P T b hs hw he hl hPT htk
    rcases can_kids hw e p with ⟨k1, ha, hb, hv⟩ | ⟨k1, ha, hb, hv⟩ | ⟨k1, ha, hb, hv⟩ | ⟨k1, k2, ha, hb, hv⟩
    · exact can_pair n ih t e p w P T b hs hw he hl hPT htk k1 ha hb _ hv
    · exact can_in n ih t e p w P T b hs hw he hl hPT htk k1 ha hb _ hv
    · exact can_res n ih t e p w P T b hs hw he hl hPT htk k1 ha hb _ hv
    · exact can_plain n ih t e p w P T b hs hw he hl hPT htk k1 k2 ha hb _ hv
theorem beA_congr {e e' : UInt8 → UInt8} (h : ∀ i, i < 26 → e (letAt i) = e' (letAt i)) : beA e = beA e' := by
  unfold beA beL
  congr 1
  apply List.map_congr_left
  intro i hi
  rw [h i (by simpa using hi)]
theorem BeAt.to {w : World} {g : Nat} {e e' : UInt8 → UInt8} (h : BeAt w g e) (hc : ∀ i, i < 26 → e (letAt i) = e' (letAt i)) : BeAt w g e' := by
  obtain ⟨t, h⟩ := h
  exact ⟨t, by rw [← beA_congr hc]; exact h⟩
theorem be_there {w : World} {g n : Nat} {cs : Array Value} {t : TypeId} (h : w.heap[g]? = some (.cells cs t (0, 0))) (hn : cs.size = n) : w.there g 0 n := fun j hj => by
  rw [Nat.zero_add, blk_cell h j]
  exact ⟨by rw [Array.getElem?_eq_getElem (by omega)]; rfl, blk_frozen h j⟩
theorem be_all (e : UInt8 → UInt8) : (beA e).all (·.oneCell') = true := all_oneCell_toArray fun v hv => by
  simp only [beL, List.mem_map] at hv
  obtain ⟨i, _, rfl⟩ := hv
  rfl
theorem BeAt.cells {w : World} {g : Nat} {e : UInt8 → UInt8} {cs : Array Value} {t : TypeId} (h : w.heap[g]? = some (.cells cs t (0, 0))) (hn : cs.size = 26) : BeAt (w.setCells g 0 (beA e).toList) g e := by
  have hz := beA_size e
  obtain ⟨cur', h3, h4, h5⟩ := setCells_row (beA e).toList 0 w cs h (by rw [Array.length_toList]; omega)
  have hd : cs.toList.drop (0 + (beA e).toList.length) = [] := List.drop_eq_nil_of_le (by rw [Array.length_toList, Array.length_toList]; omega)
  rw [hd, List.take_zero, List.nil_append, List.append_nil] at h5
  have hc : cur' = beA e := Array.ext' h5
  rw [hc] at h3
  exact ⟨t, h3⟩
theorem be_zero : (#[.int .u8 0, .int .u8 0, .int .u8 0, .int .u8 0, .int .u8 0, .int .u8 0, .int .u8 0, .int .u8 0, .int .u8 0, .int .u8 0, .int .u8 0, .int .u8 0, .int .u8 0, .int .u8 0, .int .u8 0, .int .u8 0, .int .u8 0, .int .u8 0, .int .u8 0, .int .u8 0, .int .u8 0, .int .u8 0, .int .u8 0, .int .u8 0, .int .u8 0, .int .u8 0] : Array Value) = beA fun _ => 0 := by kernel_rfl
theorem heap_at1 (w : World) (a b : Obj) : ((w.alloc a).alloc b).heap[w.heap.size + 1]? = some b := by
  have := heap_alloc_new (w.alloc a) b
  simpa using this
theorem heap_at0 (w : World) (a b : Obj) : ((w.alloc a).alloc b).heap[w.heap.size]? = some a :=
  (Below.heap_alloc _ _ _ (by simp)).trans (heap_alloc_new w a)
theorem below_setCells {w0 w : World} {g : Nat} (h : Below w0.heap.size w0 w) (hg : w0.heap.size ≤ g) (o : Nat) (vs : List Value) : Below w0.heap.size w0 (w.setCells g o vs) := by
  obtain ⟨p, q, r, t, u⟩ := h
  obtain ⟨a, b, c, d⟩ := setCells_same g vs o w
  exact ⟨a.trans p, b.trans q, c.trans r, by rw [d]; exact t, fun i hi => (setCells_far vs o i (by omega)).trans (u i hi)⟩
theorem name_wl {P : Program} {ops : Array Oper} {rest : List Oper} {Q : Exit → Act → World → Prop} {a : Act} {w : World} (h : ∀ W, W = w → wpList P ops Q rest a W) : wpList P ops Q rest a w := h w rfl
theorem can_start {W W0 : World} {x y : TypeId} (h : W0 = ((W.alloc (.cells #[.int .u8 0, .int .u8 0, .int .u8 0, .int .u8 0, .int .u8 0, .int .u8 0, .int .u8 0, .int .u8 0, .int .u8 0, .int .u8 0, .int .u8 0, .int .u8 0, .int .u8 0, .int .u8 0, .int .u8 0, .int .u8 0, .int .u8 0, .int .u8 0, .int .u8 0, .int .u8 0, .int .u8 0, .int .u8 0, .int .u8 0, .int .u8 0, .int .u8 0, .int .u8 0] x)).alloc (.cells #[.int .u32 0] y)).setCells W.heap.size 0 (#[.int .u8 0, .int .u8 0, .int .u8 0, .int .u8 0, .int .u8 0, .int .u8 0, .int .u8 0, .int .u8 0, .int .u8 0, .int .u8 0, .int .u8 0, .int .u8 0, .int .u8 0, .int .u8 0, .int .u8 0, .int .u8 0, .int .u8 0, .int .u8 0, .int .u8 0, .int .u8 0, .int .u8 0, .int .u8 0, .int .u8 0, .int .u8 0, .int .u8 0, .int .u8 0] : Array Value).toList) :
    BeAt W0 W.heap.size (fun _ => 0) ∧ (W0.heap[W.heap.size + 1]? = some (.cells #[.int .u32 0] y (0, 0))) ∧ Below W.heap.size W W0 ∧ W0.heap.size = W.heap.size + 2 := by
  rw [be_zero] at h
  subst h
  refine ⟨BeAt.cells (heap_at0 _ _ _) (beA_size _), (setCells_far _ _ _ (by omega)).trans (heap_at1 _ _ _), ?_, ?_⟩
  · exact below_setCells (((Below.refl _ _).alloc (Nat.le_refl _) _).alloc (by simp) _) (Nat.le_refl _) _ _
  · refine (setCells_same _ _ _ _).2.2.2.trans ?_
    simp
def upTo (j : Nat) : UInt8 → UInt8 := fun c => if vl c < 97 + (j : Int) then c else 0
theorem upTo_zero {i : Nat} (hi : i < 26) : upTo 0 (letAt i) = 0 := by
  unfold upTo; rw [letAt_vl (by omega), if_neg (by omega)]
theorem upTo_all {i : Nat} (hi : i < 26) : upTo 26 (letAt i) = id (letAt i) := by
  unfold upTo; rw [letAt_vl (by omega), if_pos (by omega)]; rfl
theorem upTo_step {j i : Nat} (hj : j < 26) (hi : i < 26) : eu (upTo j) (letAt j) (letAt j) (letAt i) = upTo (j + 1) (letAt i) := by
  unfold eu upTo
  rw [letAt_vl (by omega)]
  by_cases h : letAt i = letAt j
  · rw [if_pos h]
    obtain rfl := (letAt_same hi hj).mp h
    rw [if_pos (by omega)]
  · rw [if_neg h]
    have : i ≠ j := fun e => h (by rw [e])
    by_cases h2 : i < j
    · rw [if_pos (by omega), if_pos (by omega)]
    · rw [if_neg (by omega), if_neg (by omega)]
def canO (t : Tm) : ByteArray × Bool := match canI t id t.fr with
  | some r => (B r.1.text, true)
  | none => (B [], false)
set_option maxHeartbeats 1000000 in
set_option maxRecDepth 100000 in
theorem canT_calls (t : Tm) (w : World) (N b : Nat) (hw : Wf isLet t) (hs : t.size ≤ 900) (htl : t.text.length ≤ 1000000) (hl : Lies w N t b) :
    Calls Try.prog 90 #[.pointer (some ⟨b, 0, none⟩)] w fun e w' => e = .returned (.tuple #[.string (canO t).1, .bool (canO t).2]) ∧ Below w.heap.size w w' := by
  have hfr := free_any 901 t w N b (by omega) (by omega) hw hl
  go_enter Try.func90, Try.ntmps90
  go_wp2_with fail
  refine hfr.mono ?_
  rintro e w' ⟨rfl, m, rfl⟩
  obtain ⟨W, hW⟩ : ∃ W, W = w.drewN m := ⟨_, rfl⟩
  have HBW : Hid (Below w.heap.size w W) := by rw [hW]; exact pw_below_drewN (Below.refl _ _) m
  have HS : Hid (W.heap.size = w.heap.size) := by rw [hW]; rfl
  rw [← hW]
  clear hW hfr
  go_upto_region 2 with (first | (refine wpList_store_mid (by rfl) 115 (.tmp 4) (.tmp 9) (by rfl) W.heap.size 0 #[.int .u8 0, .int .u8 0, .int .u8 0, .int .u8 0, .int .u8 0, .int .u8 0, .int .u8 0, .int .u8 0, .int .u8 0, .int .u8 0, .int .u8 0, .int .u8 0, .int .u8 0, .int .u8 0, .int .u8 0, .int .u8 0, .int .u8 0, .int .u8 0, .int .u8 0, .int .u8 0, .int .u8 0, .int .u8 0, .int .u8 0, .int .u8 0, .int .u8 0, .int .u8 0] (by rfl) (by rfl) (be_there (heap_at0 _ _ _) (by rfl)) (by exact Try.infoBe) (by rw [be_zero]; exact be_all _) ?_; refine name_wl ?_; intro W0 hW0; have H0 := Lib.hid (can_start hW0); clear hW0; have tc := blk_cell H0.out.2.1 0; have tf := blk_frozen H0.out.2.1 0))
  refine name_worldc ?_
  intro W1 hW1
  have H1 : Hid (BeAt W1 W.heap.size (upTo 0) ∧ TkAt W1 (W.heap.size + 1) t.fr ∧ Below w.heap.size w W1) := by
    rw [hW1]
    refine ⟨(H0.out.1.keep (Below.heap_setCell _ _ _ _ (by simp))).to fun i hi => (upTo_zero hi).symm, ⟨_, blk_put H0.out.2.1 0 _ rfl⟩, ?_⟩
    exact (below_step HBW.out H0.out.2.2.1).setCell (by have := HS.out; simp; omega) _
  have HE : Hid (w.heap.size ≤ W.heap.size) := by show _ ≤ _; rw [HS.out]; exact Nat.le_refl _
  clear hW1 tc tf H0 HBW HS
  generalize W.heap.size = E at H1 HE ⊢
  have HW := Lib.hid hw
  have HL := Lib.hid hl
  have HTL : Hid (t.text.length ≤ 1000000 ∧ t.size ≤ 900) := ⟨htl, hs⟩
  clear hw hl htl hs
  go_wp2_with fail
  go_loopw [12] (fun i wr => ∃ j : Nat, j ≤ 26 ∧ i = .int .i64 j ∧ Hid (BeAt wr E (upTo j)) ∧ Hid (TkAt wr (E + 1) t.fr) ∧ Hid (Below w.heap.size w wr)) (fun i _ => 26 - (intOf i).toNat)
  case atStart => exact ⟨0, Nat.zero_le _, rfl, H1.out.1, H1.out.2.1, H1.out.2.2⟩
  case round =>
    obtain ⟨j, hj, rfl, hbe, htk, hbl⟩ := hrel
    by_cases hlt : j < 26
    · have hlt4 : (j : Int) < 26 := by omega
      have c0 := hbe.out.cell hlt
      have f0 := hbe.out.frozen j
      have w1 : IntKind.i64.wrap ((97 : Int) + j) = 97 + j := (i64_w _).trans (wrap_id (by omega) (by omega))
      have w2 : IntKind.u8.wrap ((97 : Int) + j) = 97 + j := by rw [IntKind.wrap_u8]; omega
      have HN : Hid (∀ W2, W2 = wr.setCell ⟨E, j, none⟩ (.int .u8 (97 + (j : Int))) → Hid (BeAt W2 E (upTo (j + 1))) ∧ Hid (TkAt W2 (E + 1) t.fr) ∧ Hid (Below w.heap.size w W2)) := by
        rintro W2 rfl
        have h1 := hbe.out.put hlt (letAt j)
        rw [letAt_vl (by omega)] at h1
        exact ⟨h1.to fun i hi => upTo_step hlt hi, htk.out.far (by omega) _ _, hbl.out.setCell HE.out _⟩
      go_wp2_with fail
      go_roundw
      case rel => exact ⟨j + 1, by omega, by go_num, HN.out _ rfl⟩
      case measure => simp [intOf]; omega
    · have hje : j = 26 := by omega
      subst hje
      have HB2 := Lib.hid (hbe.out.to (e' := id) fun i hi => upTo_all hi)
      have HLP := Lib.hid (LiesP.keep (w' := wr) (fun i hi hi2 => hbl.out.block i hi2) (LiesP.of HL.out))
      have hrec := can_any 900 t id t.fr wr (fun i => N ≤ i ∧ i < w.heap.size) (E + 1) b HTL.out.2 HW.out (fun c hc => hc) HLP.out (by have := HE.out; omega) htk.out
      have hU := Try.underlying115
      have hI : (Try.prog.info? 115).map (·.size) = some (beL id).length := by rw [beL_len]; exact Try.infoBe
      have hz1 := beA_size id
      go_wp2_with (first | ((with_reducible refine gate_dst (N := 23) rfl ?_); refine wpList_load_mid (by rfl) 115 (.tmp 4) (by rfl) E 0 (by rfl) (beL id) _ HB2.out.range hU rfl hI ?_))
      refine hrec.mono ?_
      rintro e9 w2 ⟨hb2, hpost⟩
      have HB3 : Hid (Below w.heap.size w w2) := ⟨hb2.os.trans hbl.out.os, hb2.tape.trans hbl.out.tape, hb2.output.trans hbl.out.output, Nat.le_trans hbl.out.size hb2.size, fun i hi => (hb2.block i (Nat.lt_of_lt_of_le hi hbl.out.size) (by have := HE.out; omega)).trans (hbl.out.block i hi)⟩
      clear hrec hU hI hb2
      have hv : canO t = match canI t id t.fr with | some r => (B r.1.text, true) | none => (B [], false) := rfl
      rcases hr : canI t id t.fr with _ | r
      · rw [hr] at hpost
        obtain ⟨z, rfl⟩ := hpost
        have HV : Hid (canO t = (B [], false)) := by show _ = _; unfold canO; rw [hr]
        clear hr hv
        go_wp2_with fail
        go_ret2
        exact ⟨by rw [HV.out]; rfl, HB3.out⟩
      · rw [hr] at hpost
        obtain ⟨x, rfl, hlx, _⟩ := hpost
        have HV : Hid (canO t = (B r.1.text, true)) := by show _ = _; unfold canO; rw [hr]
        obtain ⟨g1, g2, g3⟩ := canI_wf t id t.fr r HW.out (fun c hc => hc) hr
        have htx := text_any 900 r.1 w2 wr.heap.size x (by rw [g2]; exact HTL.out.2) g1 (by rw [g3]; exact HTL.out.1) hlx
        clear hr hv hlx g1 g2 g3
        go_wp2_with fail
        refine htx.mono ?_
        rintro e9 w3 ⟨rfl, hb3⟩
        have HB4 := Lib.hid (below_step HB3.out hb3)
        clear htx hb3
        go_wp2_with fail
        go_ret2
        exact ⟨by rw [HV.out]; rfl, HB4.out⟩

def canV (l : List UInt8) : ByteArray × Bool := if readOk l = true then canO (parsed l).1 else (B [], false)
set_option maxHeartbeats 1000000 in
theorem CanonicalNames_calls (l : List UInt8) (w : World) (hl : l.length ≤ 140737488351232) :
    Calls Try.prog 43 #[.string (B l)] w fun e w' => e = .returned (.tuple #[.string (canV l).1, .bool (canV l).2]) ∧ Below w.heap.size w w' := by
  go_enter Try.func43, Try.ntmps43
  go_wp2_with fail
  refine (read_calls l w hl).mono ?_
  rintro e w1 ⟨hb, p, rfl, hpp⟩
  rcases hok : readOk l with _ | _
  · have hv : Hid (canV l = (B [], false)) := by simp [Hid, canV, hok]
    clear hok hpp
    go_wp2_with fail
    go_ret2
    exact ⟨by rw [hv.out]; rfl, hb⟩
  have hv : Hid (canV l = canO (parsed l).1) := by simp [Hid, canV, hok]
  obtain ⟨b, rfl, hli⟩ := hpp hok
  obtain ⟨g1, g2, g3, g4⟩ := read_good hok
  have hc := canT_calls (parsed l).1 w1 _ b g3 (by omega) (by rw [← g2]; omega) hli
  have HB := Lib.hid hb
  clear hok hpp hb hli g1 g2 g3 g4
  go_wp2_with fail
  refine hc.mono ?_
  rintro e w2 ⟨rfl, hb2⟩
  have HB2 := Lib.hid (below_then HB.out HB.out.size hb2)
  clear hc hb2
  go_wp2_with fail
  go_ret2
  exact ⟨by rw [hv.out]; rfl, HB2.out⟩

end Go.Proofs.Ytfcadppidgkoaaa
