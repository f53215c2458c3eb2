/- The law FnExactStartMachine, walked: the program's answer is the reference's. -/
import Derived.Test.YtfcadppidgkoaaaMarkFnExactStartMachine
import Derived.Test.YtfcadppidgkoaaaGuardFnExactStartMachine
import Derived.Test.YtfcadppidgkoaaaInputFnExactStartMachine
import Derived.Test.YtfcadppidgkoaaaSimpleT
namespace Go.Proofs.Ytfcadppidgkoaaa.PFnExactStartMachine
open Go.RowKit Go.Proofs.YtfcadppidgkoaaaW.PrintWords Go.Proofs.YtfcadppidgkoaaaW.PrintLast Go.Proofs.YtfcadppidgkoaaaW.PrintMore Go.Proofs.Ytfcadppidgkoaaa.Pterm
set_option linter.unusedVariables false
set_option linter.unusedSimpArgs false

/-- The threads that are ready. -/
def rdy (l : List UInt8) : List ByteArray := if simpleOk l = true then [B l] else []

set_option maxHeartbeats 1000000 in
theorem StartMachine_calls (l : List UInt8) (w : World) (hl : l.length ≤ 140737488351232) :
    Calls Try.prog 18 #[.string (B l)] w fun e w' => ∃ v : Value, e = .returned (.tuple #[.agg #[.string ⟨#[]⟩, v, .slice none 0 0], .bool (simpleOk l)]) ∧ Kd.R Kd.string 9 w' w.heap.size (fun _ => True) v (rdy l) ∧ Below w.heap.size w w' := by
  go_enter Try.func18, Try.ntmps18
  go_wp2_with fail
  obtain ⟨w0, hW0⟩ : ∃ w0, w0 = w.alloc (.cells #[.string ⟨#[]⟩, .slice none 0 0, .slice none 0 0] 27) := ⟨_, rfl⟩
  rw [← hW0]
  have hb0 : Below w.heap.size w w0 := by rw [hW0]; exact (Below.refl _ _).alloc (Nat.le_refl _) _
  have hbox := (congrArg (fun x : World => x.heap[w.heap.size]?) hW0).trans (heap_alloc_new w _)
  have hgt : w.heap.size < w0.heap.size := by rw [hW0]; simp
  clear hW0
  refine (simpleTerm_calls l w0 hl).mono ?_
  rintro e w1 ⟨hb, p, rfl, _⟩
  have hbox1 : w1.heap[w.heap.size]? = some (.cells #[.string ⟨#[]⟩, .slice none 0 0, .slice none 0 0] 27 (0, 0)) := (hb.block _ hgt).trans hbox
  replace hb := below_then hb0 hb0.size hb
  have hlt : w.heap.size < w1.heap.size := blk_lt hbox1
  have c0 : w1.cell? ⟨w.heap.size, 0, none⟩ = some (.string ⟨#[]⟩) := blk_cell hbox1 0
  have c1 : w1.cell? ⟨w.heap.size, 1, none⟩ = some (.slice none 0 0) := blk_cell hbox1 1
  have c2 : w1.cell? ⟨w.heap.size, 2, none⟩ = some (.slice none 0 0) := blk_cell hbox1 2
  have f0 := blk_frozen hbox1 0
  have f1 := blk_frozen hbox1 1
  have f2 := blk_frozen hbox1 2
  have hal : ∀ o, (w1.alloc o).heap[w.heap.size]? = some (.cells #[.string ⟨#[]⟩, .slice none 0 0, .slice none 0 0] 27 (0, 0)) := fun o => by rw [Below.heap_alloc _ _ _ hlt]; exact hbox1
  have d0 : ∀ o, (w1.alloc o).cell? ⟨w.heap.size, 0, none⟩ = some (.string ⟨#[]⟩) := fun o => blk_cell (hal o) 0
  have d1 : ∀ o, (w1.alloc o).cell? ⟨w.heap.size, 1, none⟩ = some (.slice none 0 0) := fun o => blk_cell (hal o) 1
  have d2 : ∀ o, (w1.alloc o).cell? ⟨w.heap.size, 2, none⟩ = some (.slice none 0 0) := fun o => blk_cell (hal o) 2
  have g0 : ∀ o, (w1.alloc o).frozen? ⟨w.heap.size, 0, none⟩ = false := fun o => blk_frozen (hal o) 0
  have g1 : ∀ o, (w1.alloc o).frozen? ⟨w.heap.size, 1, none⟩ = false := fun o => blk_frozen (hal o) 1
  have g2 : ∀ o, (w1.alloc o).frozen? ⟨w.heap.size, 2, none⟩ = false := fun o => blk_frozen (hal o) 2
  have HAL := Lib.hid hal
  clear hbox hb0 hgt hal
  rcases hok : simpleOk l with _ | _
  · have HR : Hid (rdy l = []) := by simp [Hid, rdy, hok]
    have HO := Lib.hid hok
    clear hok
    have HB := Lib.hid hb
    have HX := Lib.hid hbox1
    clear hb hbox1
    go_wp2_with fail
    refine bodyPost_ret (results_ct rfl _ _ w.heap.size 27 #[.string ⟨#[]⟩, .slice none 0 0, .slice none 0 0] (0, 0) _ rfl (by
      refine blk_put (cs := #[.string ⟨#[]⟩, .slice none 0 0, .slice none 0 0]) ?_ 2 _ rfl
      refine blk_put (cs := #[.string ⟨#[]⟩, .slice none 0 0, .slice none 0 0]) ?_ 1 _ rfl
      refine blk_put (cs := #[.string ⟨#[]⟩, .slice none 0 0, .slice none 0 0]) ?_ 0 _ rfl
      exact HX.out) Try.underlying27 rfl (by kernel_rfl)) rfl ?_
    exact ⟨.slice none 0 0, by rw [HO.out]; rfl, by rw [HR.out]; exact Kd.R_nil _ _ _ _ _, ((HB.out.setCell (Nat.le_refl _) _).setCell (Nat.le_refl _) _).setCell (Nat.le_refl _) _⟩
  · have HR : Hid (rdy l = [B l]) := by simp [Hid, rdy, hok]
    have HO := Lib.hid hok
    clear hok
    have HB := Lib.hid hb
    have HX := Lib.hid hbox1
    clear hb hbox1
    go_wp2_with fail
    refine bodyPost_ret (results_ct rfl _ _ w.heap.size 27 #[.string ⟨#[]⟩, .slice (some ⟨w1.heap.size, 0, none⟩) 1 1, .slice none 0 0] (0, 0) _ rfl (by
      refine blk_alloc ?_ _
      refine blk_put (cs := #[.string ⟨#[]⟩, .slice (some ⟨w1.heap.size, 0, none⟩) 1 1, .slice none 0 0]) ?_ 2 _ rfl
      refine blk_put (cs := #[.string ⟨#[]⟩, .slice none 0 0, .slice none 0 0]) ?_ 1 _ rfl
      refine blk_put (cs := #[.string ⟨#[]⟩, .slice none 0 0, .slice none 0 0]) ?_ 0 _ rfl
      exact HX.out) Try.underlying27 rfl (by kernel_rfl)) rfl ?_
    have hbb := ((HB.out.setCell (Nat.le_refl _) (.string ⟨#[]⟩) (p := ⟨w.heap.size, 0, none⟩)).setCell (Nat.le_refl _) (.slice (some ⟨w1.heap.size, 0, none⟩) 1 1) (p := ⟨w.heap.size, 1, none⟩)).setCell (Nat.le_refl _) (.slice none 0 0) (p := ⟨w.heap.size, 2, none⟩)
    have hro := row_one (((w1.setCell ⟨w.heap.size, 0, none⟩ (.string ⟨#[]⟩)).setCell ⟨w.heap.size, 1, none⟩ (.slice (some ⟨w1.heap.size, 0, none⟩) 1 1)).setCell ⟨w.heap.size, 2, none⟩ (.slice none 0 0)) w.heap.size (B l) hbb.size
    exact ⟨.slice (some ⟨w1.heap.size, 0, none⟩) 1 1, by rw [HO.out]; rfl, by rw [HR.out]; simpa [World.setCell] using hro, hbb.alloc hbb.size _⟩

set_option maxHeartbeats 1000000 in
theorem markMachine_calls (base : Nat) (ok : Nat → Prop) (v : Value) (s : ByteArray) (l : List ByteArray) (k : Nat) (w : World) (hk : k + l.length ≤ 60) (h : Kd.R Kd.string 9 w base ok v l) (hbw : base ≤ w.heap.size) :
    Calls Try.prog 20 #[.agg #[.string s, v, .slice none 0 0], .int .i64 k] w fun e w' => e = .returned (.int .i64 ((k + l.length : Nat) : Int)) ∧ (∃ m, Marked m l.length k l.length ∧ Kd.R Kd.string 9 w' base ok v m) ∧ w.grownBy w' v.ownBlock ∧ Below base w w' := by
  have HLT := Lib.hid (Kd.R_lt h)
  have H := Lib.hid h
  clear h
  go_enter Try.func20, Try.ntmps20
  go_wp2_with fail
  obtain ⟨w0, hW0⟩ : ∃ w0, w0 = w.alloc (.cells #[.string s, v, .slice none 0 0] 27) := ⟨_, rfl⟩
  rw [← hW0]
  have hb0 : Below w.heap.size w w0 := by rw [hW0]; exact (Below.refl _ _).alloc (Nat.le_refl _) _
  have hbox : w0.heap[w.heap.size]? = some (.cells #[.string s, v, .slice none 0 0] 27 (0, 0)) := (congrArg (fun x : World => x.heap[w.heap.size]?) hW0).trans (heap_alloc_new w _)
  have hgt : w.heap.size < w0.heap.size := by rw [hW0]; simp
  clear hW0
  have hc := mark_calls base ok v l k w0 hk (Kd.R_below H.out hb0) (Nat.le_trans hbw hb0.size)
  refine hc.mono ?_
  rintro e w1 ⟨rfl, ⟨m, hm, hr⟩, hg, hb⟩
  have hne : some w.heap.size ≠ v.ownBlock := fun h => by have := HLT.out _ h.symm; omega
  have hbox1 := (hg.block _ hgt hne).trans hbox
  have c2 : w1.cell? ⟨w.heap.size, 2, none⟩ = some (.slice none 0 0) := blk_cell hbox1 2
  have hc2 := mark_calls base ok (.slice none 0 0) [] (k + l.length) w1 (by simpa using hk) (Kd.R_nil _ _ _ _ _) (Nat.le_trans (Nat.le_trans hbw hb0.size) hb.size)
  have HM := Lib.hid hm
  have HR := Lib.hid hr
  have HG := Lib.hid hg
  have HB := Lib.hid hb
  have HB0 := Lib.hid hb0
  clear hm hr hg hb hb0 hbox hbox1 hc hne hgt
  go_wp2_with fail
  refine hc2.mono ?_
  rintro e w2 ⟨rfl, _, hg2, hb2⟩
  clear hc2
  have hb2' : Below w1.heap.size w1 w2 := by
    obtain ⟨a, b, c, d, e⟩ := hg2
    exact ⟨a, b, c, d, fun i hi => e i hi (by simp [Value.ownBlock])⟩
  have HB2 := Lib.hid hb2'
  clear hg2 hb2 hb2'
  go_wp2_with fail
  go_ret
  have hbs : base ≤ w0.heap.size := Nat.le_trans hbw HB0.out.size
  refine ⟨rfl, ⟨m, HM.out, Kd.R_below HR.out HB2.out⟩, grown_then (grown_then (grown_of_below HB0.out) HG.out) (grown_of_below HB2.out), ?_⟩
  have e1 : Below base w w1 := by
    obtain ⟨a, b, c, d, e⟩ := HB.out
    obtain ⟨a', b', c', d', e'⟩ := HB0.out
    exact ⟨a.trans a', b.trans b', c.trans c', Nat.le_trans d' d, fun i hi => (e i hi).trans (e' i (by omega))⟩
  exact below_then e1 (Nat.le_trans hbw e1.size) HB2.out
theorem spec_val (l : List UInt8) : spec_StartMachine.f 3000 (B l) = some (⟨#[]⟩, rdy l, [], simpleOk l) := by
  unfold spec_StartMachine.f spec_maThread.f
  rw [good_f l 3000 (by omega), Option.bind_some]
  rcases hok : readOk l with _ | _
  · simp [rdy, simpleOk, hok]
  · obtain ⟨h1, h2, h3, h4⟩ := read_good hok
    have e := guarded_text (parsed l).1 3000 (Wf.names (fun c => let_name) h3) (by rw [← h2]; omega) (by omega)
    have e2 := inputs_text (parsed l).1 3000 (Wf.names (fun c => let_name) h3) (by rw [← h2]; omega) (by omega)
    rw [← h2] at e e2
    unfold spec_tmSimple.f
    rw [if_pos rfl, e, Option.bind_some, e2]
    cases hg : (pre (parsed l).1).all guaP <;> cases hs : (pre (parsed l).1).all simP <;> simp [rdy, simpleOk, hok, hg, hs]

/-- A Machine lies at block g. -/
def MBox (w : World) (g : Nat) (a b : Value) : Prop := w.heap[g]? = some (.cells #[.string ⟨#[]⟩, a, b] 27 (0, 0))
theorem MBox.below {w w' : World} {g : Nat} {a b : Value} (h : MBox w g a b) (hb : Below w.heap.size w w') : MBox w' g a b := blk_below h hb
theorem MBox.cells {w : World} {g : Nat} {a b : Value} (h : MBox w g a b) : w.cell? ⟨g, 0, none⟩ = some (.string ⟨#[]⟩) ∧ w.cell? ⟨g, 1, none⟩ = some a ∧ w.cell? ⟨g, 2, none⟩ = some b := ⟨blk_cell h 0, blk_cell h 1, blk_cell h 2⟩
theorem MBox.allocs {w : World} {g : Nat} {a b : Value} (h : MBox w g a b) : (∀ o, (w.alloc o).cell? ⟨g, 0, none⟩ = some (.string ⟨#[]⟩)) ∧ (∀ o, (w.alloc o).cell? ⟨g, 1, none⟩ = some a) ∧ (∀ o, (w.alloc o).cell? ⟨g, 2, none⟩ = some b) :=
  ⟨fun o => blk_cell (blk_alloc h o) 0, fun o => blk_cell (blk_alloc h o) 1, fun o => blk_cell (blk_alloc h o) 2⟩
theorem MBox.below2 {w w' : World} {g : Nat} {a b : Value} (h : MBox w g a b) (hb : Below w.heap.size w w') : MBox w' g a b := h.below hb
theorem eqM_f (l : List ByteArray) (hl : l.length ≤ 100) : laws_eqMachine.f 3000 ⟨#[]⟩ l [] ⟨#[]⟩ l [] = some true := by
  unfold laws_eqMachine.f
  rw [if_pos rfl, eq_f l 3000 (by omega) (by omega), Option.bind_some, if_pos rfl, eq_f [] 3000 (by simp) (by simp)]
  rfl
theorem heldM_f (m : List ByteArray) (n : Nat) (hn : n ≤ 50) (hm : Marked m n 1 n) : laws_heldMachine.f 3000 ⟨#[]⟩ m [] 1 = some ((1 + n : Nat) : Int) := by
  unfold laws_heldMachine.f
  have e := held_f m n 1 3000 (by omega) hm (by omega)
  have e2 := held_f [] 0 (1 + n) 3000 (by omega) ⟨rfl, fun j hj => absurd hj (Nat.not_lt_zero _)⟩ (by omega)
  rw [show ((1 : Nat) : Int) = 1 from rfl] at e
  rw [e, Option.bind_some, if_neg (by omega), e2, Option.bind_some, if_neg (by omega)]
  rfl

theorem below_step2 {a w w' : World} {N : Nat} (h : Below N a w) (k : Below N w w') : Below N a w' := by
  obtain ⟨p, q, r, t, u⟩ := h
  obtain ⟨p', q', r', t', u'⟩ := k
  exact ⟨p'.trans p, q'.trans q, r'.trans r, Nat.le_trans t t', fun i hi => (u' i hi).trans (u i hi)⟩

set_option maxHeartbeats 2000000 in
theorem law_walk (s : ByteArray) (w : World) (hs : s.size ≤ 140737488351232) :
    Calls Try.prog 4 #[.string s] w fun e w' => e = .returned (.bool true) ∧ Below w.heap.size w w' := by
  obtain ⟨l, rfl⟩ := B_of s
  have hz : (B l).size = l.length := B_size l
  rw [hz] at hs
  by_cases hbig : l.length > 1048576
  · go_enter Try.func4, Try.ntmps4
    go_wp2_with fail
    go_ret
    exact ⟨rfl, Below.refl _ _⟩
  · have HF := Lib.hid (spec_val l)
    have hlen : (rdy l).length ≤ 1 := by unfold rdy; split <;> simp
    go_enter Try.func4, Try.ntmps4
    go_wp2_with fail
    refine (spec_StartMachine.calls 3000 (B l) _ _ _ _ _ HF.out).mono ?_
    rintro e w1 ⟨v1, v2, rfl, R1, R2, hb1⟩
    obtain ⟨A1, c1, rfl⟩ := Kd.R_slice R1
    obtain ⟨A2, c2, rfl⟩ := Kd.R_slice R2
    have K1 := Lib.hid (Kd.R_reads' R1).2
    have K2 := Lib.hid (Kd.R_reads' R2).2
    clear R1 R2 HF
    go_wp2_with fail
    -- the box of what the reference hands back
    obtain ⟨w2, hW2⟩ : ∃ w2, w2 = w1.alloc (.cells #[.string ⟨#[]⟩, .slice A1 (rdy l).length c1, .slice A2 0 c2] 27) := ⟨_, rfl⟩
    rw [← hW2]
    have hb2 : Below w1.heap.size w1 w2 := by rw [hW2]; exact (Below.refl _ _).alloc (Nat.le_refl _) _
    have hx3 : MBox w2 w1.heap.size (.slice A1 (rdy l).length c1) (.slice A2 0 c2) := (congrArg (fun x : World => x.heap[w1.heap.size]?) hW2).trans (heap_alloc_new w1 _)
    clear hW2
    have HB := Lib.hid (below_then hb1 hb1.size hb2)
    have k1 : Kd.C Kd.string w2 A1 (rdy l).length (rdy l) := Kd.C_below K1.out.2 hb2
    have k2 : Kd.C Kd.string w2 A2 [].length [] := Kd.C_below K2.out.2 hb2
    have KC := Lib.hid (And.intro k1 k2)
    clear hb1 hb2 k1 k2
    refine (StartMachine_calls l w2 hs).mono ?_
    rintro e w3 ⟨v3, rfl, R3, hb3⟩
    obtain ⟨A3, c3, rfl⟩ := Kd.R_slice R3
    have HR3 := Lib.hid R3
    have HLT := Lib.hid (Kd.R_lt R3)
    have HB3 := Lib.hid hb3
    have HX3 := Lib.hid hx3
    obtain ⟨e0, e1, e2⟩ := (hx3.below hb3).allocs
    have hbs := hb3.size
    clear R3 hb3 hx3
    obtain ⟨w4, hW4⟩ : ∃ w4, w4 = w3.alloc (.cells #[.string ⟨#[]⟩, .slice A3 (rdy l).length c3, .slice none 0 0] 27) := ⟨_, rfl⟩
    have hb4 : Below w3.heap.size w3 w4 := by rw [hW4]; exact (Below.refl _ _).alloc (Nat.le_refl _) _
    have hx5 : MBox w4 w3.heap.size (.slice A3 (rdy l).length c3) (.slice none 0 0) := (congrArg (fun x : World => x.heap[w3.heap.size]?) hW4).trans (heap_alloc_new w3 _)
    have HB4 := Lib.hid (below_then HB3.out HB3.out.size hb4)
    have HR4 := Lib.hid (Kd.R_below HR3.out hb4)
    have HX5 := Lib.hid hx5
    have HW4 := Lib.hid hW4
    clear hb4 hx5 hW4
    have heq := laws_eqMachine.calls 3000 ⟨#[]⟩ A3 c3 (rdy l) none 0 [] ⟨#[]⟩ A1 c1 (rdy l) A2 c2 [] true w4 (Kd.R_reads' HR4.out).2.2 (Kd.R_reads' HR4.out).2.1 (Kd.C_nil _ _) (Nat.le_refl _) (Kd.C_below KC.out.1 HB4.out) K1.out.1 (Kd.C_below KC.out.2 HB4.out) K2.out.1 (eqM_f _ (by omega))
    go_wp2_with fail
    rw [← HW4.out]
    refine heq.mono ?_
    rintro e w5 ⟨rfl, hb5⟩
    have HB5 := Lib.hid (below_then HB4.out HB4.out.size hb5)
    have HR5 := Lib.hid (Kd.R_below HR4.out hb5)
    have HX5b := Lib.hid (HX5.out.below hb5)
    obtain ⟨d0, d1, d2⟩ := HX5b.out.cells
    have hmk := markMachine_calls w2.heap.size (fun _ => True) (.slice A3 (rdy l).length c3) ⟨#[]⟩ (rdy l) 1 w5 (by omega) HR5.out HB5.out.size
    clear heq hb5 HR4 HB4 HX5 HW4 e0 e1 e2
    go_wp2_with fail
    refine hmk.mono ?_
    rintro e w6 ⟨rfl, ⟨m, hm, hr⟩, hg, hb6⟩
    have hne : some w3.heap.size ≠ (Value.slice A3 (rdy l).length c3).ownBlock := fun h => by have := HLT.out _ h.symm; omega
    have hlt5 : w3.heap.size < w5.heap.size := blk_lt HX5b.out
    have HX6 : Hid (MBox w6 w3.heap.size (.slice A3 (rdy l).length c3) (.slice none 0 0)) := (hg.block _ hlt5 hne).trans HX5b.out
    have HB6 := Lib.hid (below_step2 HB5.out hb6)
    have HM := Lib.hid hm
    have HR6 := Lib.hid hr
    obtain ⟨d0, d1, d2⟩ := HX6.out.cells
    have hh := laws_heldMachine.calls 3000 ⟨#[]⟩ A3 c3 m none 0 [] 1 _ w6 (Kd.R_reads' hr).2.2 (by rw [hm.1]; exact (Kd.R_reads' HR3.out).2.1) (Kd.C_nil _ _) (Nat.le_refl _) (heldM_f m _ (by omega) hm)
    rw [hm.1] at hh
    clear hmk hm hr hg hb6 HX5b HR5 HB5 hne hlt5
    go_wp2_with fail
    refine hh.mono ?_
    rintro e w7 ⟨rfl, hb7⟩
    have HB7 := Lib.hid (below_then HB6.out HB6.out.size hb7)
    have HR7 := Lib.hid (Kd.R_below HR6.out hb7)
    have HX7 := Lib.hid (HX6.out.below hb7)
    have hst := StartMachine_calls l w7 hs
    clear hh hb7 HX6 HR6 HB6 d0 d1 d2
    go_wp2_with fail
    refine hst.mono ?_
    rintro e w8 ⟨v8, rfl, R8, hb8⟩
    obtain ⟨A8, c8, rfl⟩ := Kd.R_slice R8
    have HB8 := Lib.hid (below_then HB7.out HB7.out.size hb8)
    have HR8 := Lib.hid R8
    have HR7b := Lib.hid (Kd.R_below HR7.out hb8)
    have hx8 := HX7.out.below hb8
    obtain ⟨e0, e1, e2⟩ := (MBox.below2 HX3.out HB8.out).allocs
    clear hst R8 HX7 HR7 hb8
    obtain ⟨w9, hW9⟩ : ∃ w9, w9 = w8.alloc (.cells #[.string ⟨#[]⟩, .slice A8 (rdy l).length c8, .slice none 0 0] 27) := ⟨_, rfl⟩
    have hb9 : Below w8.heap.size w8 w9 := by rw [hW9]; exact (Below.refl _ _).alloc (Nat.le_refl _) _
    have HB9 := Lib.hid (below_then HB8.out HB8.out.size hb9)
    have HR9 := Lib.hid (Kd.R_below HR8.out hb9)
    have HR7c := Lib.hid (Kd.R_below HR7b.out hb9)
    have HX9 := Lib.hid (hx8.below hb9)
    have HW9 := Lib.hid hW9
    clear hb9 hW9 hx8 HR7b HB8 HB7
    have heq := laws_eqMachine.calls 3000 ⟨#[]⟩ A8 c8 (rdy l) none 0 [] ⟨#[]⟩ A1 c1 (rdy l) A2 c2 [] true w9 (Kd.R_reads' HR9.out).2.2 (Kd.R_reads' HR9.out).2.1 (Kd.C_nil _ _) (Nat.le_refl _) (Kd.C_below KC.out.1 HB9.out) K1.out.1 (Kd.C_below KC.out.2 HB9.out) K2.out.1 (eqM_f _ (by omega))
    go_wp2_with fail
    rw [← HW9.out]
    refine heq.mono ?_
    rintro e w10 ⟨rfl, hb10⟩
    have HB10 := Lib.hid (below_then HB9.out HB9.out.size hb10)
    have hr10 := Kd.R_below HR7c.out hb10
    obtain ⟨d0, d1, d2⟩ := (HX9.out.below hb10).cells
    have hh := laws_heldMachine.calls 3000 ⟨#[]⟩ A3 c3 m none 0 [] 1 _ w10 (Kd.R_reads' hr10).2.2 (by rw [HM.out.1]; exact (Kd.R_reads' HR3.out).2.1) (Kd.C_nil _ _) (Nat.le_refl _) (heldM_f m _ (by omega) HM.out)
    rw [HM.out.1] at hh
    clear heq hb10 hr10 HX9 HR7c HR9 HW9 HB9 e0 e1 e2
    go_wp2_with fail
    refine hh.mono ?_
    rintro e w11 ⟨rfl, hb11⟩
    have HB11 := Lib.hid (below_then HB10.out HB10.out.size hb11)
    clear hh hb11 d0 d1 d2
    go_wp2_with fail
    go_ret
    exact ⟨rfl, below_then HB.out HB.out.size HB11.out⟩

end Go.Proofs.Ytfcadppidgkoaaa.PFnExactStartMachine
