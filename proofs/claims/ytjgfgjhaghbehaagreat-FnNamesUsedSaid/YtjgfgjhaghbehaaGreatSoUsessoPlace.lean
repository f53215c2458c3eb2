/- The walk of the reference's soUses, at a term's text. -/
import Derived.Test.YtjgfgjhaghbehaaGreatFreeAsoPlace
import Derived.Test.YtjgfgjhaghbehaaGreatUsesP
import Derived.Deep.Cut
import Derived.Deep.CutRange
import Derived.Deep.CutBlock
import Derived.Deep.DeepCutAuto
import Derived.Deep.LoopGhost
import Derived.Lib.Hide
import Derived.WalkKit
import Derived.OwnWalk
import Derived.Outline
namespace Go.Proofs.YtjgfgjhaghbehaaGreat.PsoPlace
open Go.RowKit Go.Proofs.YtjgfgjhaghbehaaGreatW.PrintWords Go.Proofs.YtjgfgjhaghbehaaGreatW.PrintLast Go.Proofs.YtjgfgjhaghbehaaGreatW.PrintMore
set_option linter.unusedVariables false
set_option linter.unusedSimpArgs false

def FourAt (w : World) (g : Nat) (f : Nat → Nat) : Prop := ∃ cs e, w.heap[g]? = some (.cells cs e (0, 0)) ∧ ∀ i, i < 4 → cs[i]? = some (.int .i64 (f i : Nat))
theorem four_lt {i : Nat} (h : i < 4) : i = 0 ∨ i = 1 ∨ i = 2 ∨ i = 3 := by omega
theorem FourAt.cell {w : World} {g : Nat} {f : Nat → Nat} (h : FourAt w g f) {i : Nat} (hi : i < 4) : w.cell? ⟨g, i, none⟩ = some (.int .i64 (f i : Nat)) ∧ w.frozen? ⟨g, i, none⟩ = false := by
  obtain ⟨cs, e, h, hc⟩ := h
  exact ⟨by rw [blk_cell h i]; exact hc i hi, blk_frozen h i⟩
theorem FourAt.set {w : World} {g : Nat} {f : Nat → Nat} (h : FourAt w g f) {i : Nat} (hi : i < 4) (v : Nat) : FourAt (w.setCell ⟨g, i, none⟩ (.int .i64 (v : Nat))) g (fun j => if j = i then v else f j) := by
  obtain ⟨cs, e, h, hc⟩ := h
  refine ⟨cs.setIfInBounds i (.int .i64 (v : Nat)), e, blk_put h i _ rfl, fun j hj => ?_⟩
  have hs : i < cs.size := by
    have := hc i hi
    exact (Array.getElem?_eq_some_iff.mp this).1
  show _ = some (Value.int .i64 ((if j = i then v else f j : Nat) : Int))
  by_cases hji : j = i
  · subst hji
    rw [if_pos rfl]
    simp [Array.getElem?_setIfInBounds, hs]
  · rw [if_neg hji, ← hc j hj]
    simp [Array.getElem?_setIfInBounds, Ne.symm hji]
theorem FourAt.congr {w : World} {g : Nat} {f f' : Nat → Nat} (h : FourAt w g f) (hf : ∀ i, i < 4 → f i = f' i) : FourAt w g f' := by
  obtain ⟨cs, e, h, hc⟩ := h
  exact ⟨cs, e, h, fun i hi => by rw [← hf i hi]; exact hc i hi⟩
theorem FourAt.lt {w : World} {g : Nat} {f : Nat → Nat} (h : FourAt w g f) : g < w.heap.size := by obtain ⟨cs, e, h, _⟩ := h; exact blk_lt h
theorem FourAt.grown {w w' : World} {g r : Nat} {f : Nat → Nat} (h : FourAt w g f) (hg : w.grownBy w' (some r)) (hn : g ≠ r) : FourAt w' g f := by
  have hl := h.lt
  obtain ⟨cs, e, h, hc⟩ := h
  exact ⟨cs, e, (hg.block _ hl (by intro h; injection h; omega)).trans h, hc⟩
theorem FourAt.below {w w' : World} {g : Nat} {f : Nat → Nat} (h : FourAt w g f) (hb : Below w.heap.size w w') : FourAt w' g f := by
  obtain ⟨cs, e, h, hc⟩ := h
  exact ⟨cs, e, blk_below h hb, hc⟩
theorem four_new {w : World} {base e : Nat} {ok : Nat → Prop} {v : Value} (h : Kd.R (Kd.int .i64) e w base ok v (List.replicate 4 0)) : ∃ g c, v = .slice (some ⟨g, 0, none⟩) 4 c ∧ 4 ≤ c ∧ base ≤ g ∧ FourAt w g (fun _ => 0) := by
  obtain ⟨g, c, rfl, hb, hl, cells, hc⟩ := Kd.R_form h (by simp)
  have hrd := Kd.R_reads' h
  simp only [List.length_replicate] at h hrd ⊢
  refine ⟨g, c, rfl, hrd.2.1, hb, cells, e, hc, fun i hi => ?_⟩
  have := (Kd.R_cell (0 : Int) (enc := Value.int .i64) h (i : Int) (by omega) (by simp; omega)).1
  rw [Int.toNat_natCast, blk_cell hc i] at this
  rw [this]
  congr 2
  unfold rdOf
  rcases four_lt hi with rfl | rfl | rfl | rfl <;> rfl

def ow (a k x y : UInt8) : Nat → Nat := fun i => (own4 a k x y).getD i 0
def uf (a : UInt8) (t : Tm) : Nat → Nat := fun i => (us4 a t).getD i 0
def ufK (a : UInt8) (l : List Tm) (f : Nat → Nat) : Nat → Nat := l.foldl (fun f t => fun i => f i + uf a t i) f
theorem ufK_take_succ (a : UInt8) (l : List Tm) (f : Nat → Nat) (i : Nat) (h : i < l.length) : ufK a (l.take (i + 1)) f = fun j => ufK a (l.take i) f j + uf a l[i] j := by
  unfold ufK; rw [List.take_succ_eq_append_getElem h, List.foldl_append]; rfl
theorem add4_get {l m : List Nat} (hl : l.length = 4) (hm : m.length = 4) {i : Nat} (hi : i < 4) : (add4 l m).getD i 0 = l.getD i 0 + m.getD i 0 := by
  match l, hl, m, hm with
  | [a, b, c, d], _, [e, f, g, h], _ => rcases four_lt hi with rfl | rfl | rfl | rfl <;> rfl
theorem uf_kids (a : UInt8) {t : Tm} (h : Wf isLet t) {i : Nat} (hi : i < 4) :
    uf a t i = if stops a t.kind t.nb = true then ow a t.kind t.na t.nb i else ufK a t.kids (ow a t.kind t.na t.nb) i := by
  cases t with
  | leaf k x y =>
    obtain ⟨rfl, _⟩ := h
    have hs : stops a (Tm.leaf 48 x y).kind (Tm.leaf 48 x y).nb = false := by simp [stops, Tm.kind]
    rw [hs, if_neg (by decide)]
    rfl
  | un k x y t =>
    show (us4 a (Tm.un k x y t)).getD i 0 = _
    simp only [us4]
    show (if stops a k y = true then own4 a k x y else add4 (own4 a k x y) (us4 a t)).getD i 0 = if stops a k y = true then ow a k x y i else ow a k x y i + uf a t i
    split
    · rfl
    · exact add4_get (own4_len _ _ _ _) (us4_len _ _) hi
  | bin k x y t1 t2 =>
    have hs : stops a (Tm.bin k x y t1 t2).kind (Tm.bin k x y t1 t2).nb = false := by rcases h.1 with rfl | rfl <;> simp [stops, Tm.kind]
    have ho : ow a (Tm.bin k x y t1 t2).kind (Tm.bin k x y t1 t2).na (Tm.bin k x y t1 t2).nb i = 0 := by
      rcases h.1 with rfl | rfl
      all_goals
        show (own4 a _ x y).getD i 0 = 0
        rcases four_lt hi with rfl | rfl | rfl | rfl <;> simp [own4, Tm.kind]
    rw [hs, if_neg (by decide)]
    show (add4 (us4 a t1) (us4 a t2)).getD i 0 = ow a (Tm.bin k x y t1 t2).kind (Tm.bin k x y t1 t2).na (Tm.bin k x y t1 t2).nb i + uf a t1 i + uf a t2 i
    rw [ho, Nat.zero_add, add4_get (us4_len _ _) (us4_len _ _) hi]
    rfl
theorem getD_far {l : List Nat} {i : Nat} (h : l.length ≤ i) : l.getD i 0 = 0 := by simp [List.getD, List.getElem?_eq_none h]
theorem own4_le (a k x y : UInt8) (i : Nat) : (own4 a k x y).getD i 0 ≤ 1 := by
  by_cases hi : i < 4
  · unfold own4
    rcases four_lt hi with rfl | rfl | rfl | rfl <;> (repeat' split) <;> simp_all
  · rw [getD_far (by rw [own4_len]; omega)]; omega
theorem uf_le (a : UInt8) (t : Tm) : ∀ i, uf a t i ≤ t.size := by
  induction t with
  | leaf => intro i; by_cases hi : i < 4
            · rcases four_lt hi with rfl | rfl | rfl | rfl <;> simp [uf, us4, Tm.size]
            · show List.getD _ _ _ ≤ _; rw [getD_far (by simp [us4]; omega)]; omega
  | un k x y t ih =>
    intro i
    by_cases hi : i < 4
    · show (us4 a (Tm.un k x y t)).getD i 0 ≤ _
      simp only [us4, Tm.size]
      have h1 := own4_le a k x y i
      have h2 := ih i
      split
      · omega
      · rw [add4_get (own4_len _ _ _ _) (us4_len _ _) hi]; unfold uf at h2; omega
    · show List.getD _ _ _ ≤ _; rw [getD_far (by rw [us4_len]; omega)]; omega
  | bin k x y t1 t2 ih1 ih2 =>
    intro i
    by_cases hi : i < 4
    · show (add4 (us4 a t1) (us4 a t2)).getD i 0 ≤ _
      have h1 := ih1 i
      have h2 := ih2 i
      rw [add4_get (us4_len _ _) (us4_len _ _) hi]
      unfold uf at h1 h2
      simp only [Tm.size]; omega
    · show List.getD _ _ _ ≤ _; rw [getD_far (by rw [us4_len]; omega)]; omega

theorem ufK_le (a : UInt8) (l : List Tm) : ∀ (f : Nat → Nat) (i : Nat), ufK a l f i ≤ f i + (l.map Tm.size).sum := by
  induction l with
  | nil => intro f i; simp [ufK]
  | cons t l ih =>
    intro f i
    have h1 := ih (fun i => f i + uf a t i) i
    have h2 := uf_le a t i
    simp only [List.map_cons, List.sum_cons]
    show ufK a l (fun i => f i + uf a t i) i ≤ _
    omega
theorem kid_sz (t : Tm) (i : Nat) (h : i < t.kids.length) : t.kids[i].size < t.size := by
  cases t with
  | leaf => simp [Tm.kids] at h
  | un => simp [Tm.kids] at h; subst h; simp [Tm.kids, Tm.size]
  | bin => simp [Tm.kids] at h; rcases (by omega : i = 0 ∨ i = 1) with rfl | rfl <;> simp [Tm.kids, Tm.size] <;> omega
theorem kids_sz (t : Tm) : 1 + (t.kids.map Tm.size).sum = t.size := by cases t <;> simp [Tm.kids, Tm.size] <;> omega
theorem take_sz (l : List Tm) (i : Nat) : ((l.take i).map Tm.size).sum ≤ (l.map Tm.size).sum := by
  have : (l.map Tm.size).sum = ((l.take i).map Tm.size).sum + ((l.drop i).map Tm.size).sum := by rw [← List.sum_append, ← List.map_append, List.take_append_drop]
  omega
theorem kid_txt (t : Tm) (i : Nat) (h : i < t.kids.length) : t.kids[i].text.length ≤ t.text.length := by
  cases t with
  | leaf => simp [Tm.kids] at h
  | un => simp [Tm.kids] at h; subst h; simp [Tm.kids, Tm.text]
  | bin => simp [Tm.kids] at h; rcases (by omega : i = 0 ∨ i = 1) with rfl | rfl <;> simp [Tm.kids, Tm.text] <;> omega
theorem kid_w {P : UInt8 → Bool} {t : Tm} (h : Wf P t) (i : Nat) (hi : i < t.kids.length) : Wf P t.kids[i] := by
  cases t with
  | leaf => simp [Tm.kids] at hi
  | un => simp [Tm.kids] at hi; subst hi; exact h.2
  | bin => simp [Tm.kids] at hi; rcases (by omega : i = 0 ∨ i = 1) with rfl | rfl
           · exact h.2.2.2.1
           · exact h.2.2.2.2
theorem grown_more {a w w' : World} {row : Option Nat} (h : a.grownBy w row) (k : w.grownBy w' row) : a.grownBy w' row :=
  ⟨k.os.trans h.os, k.tape.trans h.tape, k.output.trans h.output, Nat.le_trans h.size k.size, fun i hi hr => (k.block i (Nat.lt_of_lt_of_le hi h.size) hr).trans (h.block i hi hr)⟩
theorem grown_of {w w' : World} {row : Option Nat} (h : Below w.heap.size w w') : w.grownBy w' row := by
  obtain ⟨a, b, c, d, e⟩ := h
  exact ⟨a, b, c, d, fun i hi _ => e i hi⟩
theorem grown_put (w : World) (g i : Nat) (v : Value) : w.grownBy (w.setCell ⟨g, i, none⟩ v) (some g) :=
  ⟨rfl, rfl, rfl, by simp [World.setCell], fun j _ hj => Below.heap_setCell w _ _ j (fun h => hj (by rw [h]))⟩
theorem byte_is {l : List UInt8} {i : Nat} {c : UInt8} (h : l[i]? = some c) : ∀ hh : i < (B l).size, (((B l)[i]'hh).toNat : Int) = vl c := by
  intro hh
  have hi : i < l.length := by rw [B_size] at hh; exact hh
  rw [byte_of l i hi hh]
  rw [List.getElem?_eq_getElem hi] at h
  injection h with h
  rw [h]
theorem head_bytes {t : Tm} (h : Wf isLet t) : ((t.kind = 33 ∨ t.kind = 63) → t.text[0]? = some t.na ∧ t.text[2]? = some t.nb ∧ 4 ≤ t.text.length) ∧ (t.kind = 61 → t.text[1]? = some t.na ∧ t.text[3]? = some t.nb ∧ 5 ≤ t.text.length) := by
  cases t with
  | leaf k x y => obtain ⟨rfl, _⟩ := h; exact ⟨by simp [Tm.kind], by simp [Tm.kind]⟩
  | un k x y t =>
    refine ⟨fun hk => ?_, fun hk => ?_⟩
    · simp only [Tm.kind] at hk
      rcases hk with rfl | rfl <;> exact ⟨rfl, rfl, by simp [Tm.text]⟩
    · simp only [Tm.kind] at hk
      subst hk
      exact ⟨rfl, rfl, by simp [Tm.text]⟩
  | bin k x y t u => rcases h.1 with rfl | rfl <;> exact ⟨by simp [Tm.kind], by simp [Tm.kind]⟩

structure Q4 (wb wc : World) (g : Nat) (f : Nat → Nat) : Prop where
  below : Below wb.heap.size wb wc
  four : FourAt wc g f
  g0 : wb.heap.size ≤ g
theorem Q4.set {wb wc : World} {g : Nat} {f f' : Nat → Nat} (h : Q4 wb wc g f) {i : Nat} (hi : i < 4) (v : Nat) (hf : ∀ j, j < 4 → (if j = i then v else f j) = f' j) : Q4 wb (wc.setCell ⟨g, i, none⟩ (.int .i64 (v : Nat))) g f' :=
  ⟨h.below.setCell h.g0 _, (h.four.set hi v).congr hf, h.g0⟩
theorem Q4.congr {wb wc : World} {g : Nat} {f f' : Nat → Nat} (h : Q4 wb wc g f) (hf : ∀ j, j < 4 → f j = f' j) : Q4 wb wc g f' := ⟨h.below, h.four.congr hf, h.g0⟩
theorem eq_v {x : UInt8} (y : UInt8) : (vl x == vl y) = decide (x = y) := by rw [Bool.eq_iff_iff]; simp [← vl_inj]

def SoUpto (a : UInt8) (n : Nat) : Prop := ∀ (t : Tm) (w : World), t.size ≤ n → n ≤ 100 → Wf isLet t → t.text.length ≤ 1000 →
    Calls Tryz.prog 36 #[.string (B t.text), .int .u8 (vl a)] w fun e w' => ∃ g c, e = .returned (.slice (some ⟨g, 0, none⟩) 4 c) ∧ 4 ≤ c ∧ Q4 w w' g (uf a t)

set_option maxHeartbeats 4000000 in
set_option maxRecDepth 100000 in
theorem so_any (a : UInt8) (n : Nat) : SoUpto a n := by
  induction n with
  | zero => intro t w h; have := t.size_pos; omega
  | succ n ih =>
    intro t w hs hn hw hlen
    have hwn := Wf.names (fun c => let_name) hw
    have hz : (B t.text).size = t.text.length := B_size _
    have hkl : t.kids.length ≤ 2 := by cases t <;> simp [Tm.kids]
    have hkd := kind_text (k := 3000) hwn (by omega) (by omega)
    have hbd := binds_text (k := 3000) hwn (by omega) (by omega)
    have hpt := parts_text (k := 3000) hwn (by omega) (by omega)
    have HW := Lib.hid hw
    have HHB := Lib.hid (head_bytes hw)
    have HUF : Hid (∀ i, i < 4 → uf a t i = _) := fun i hi => uf_kids a hw hi
    clear hw hwn
    go_enter Tryz.func36, Tryz.ntmps36
    go_wp2_with (first | ((with_reducible refine gate_dst (N := 12) rfl ?_); refine Kd.R_make (Kd.int .i64) w.heap.size 3 rfl (N := 12) rfl 47 _ _ rfl 4 rfl rfl Tryz.underlying47 (.int .i64 0) 8 (by kernel_rfl) rfl (by decide) (by omega) 0 (ok := fun _ => True) (okp := fun _ => True) rfl (fun _ hk => hk) trivial (by omega) (by omega) (Below.refl w.heap.size w) (Nat.le_refl _) ?_; intro v w6 ho hb hg hn; clear hg hn; obtain ⟨g, c, rfl, hgc, hgb, hfour⟩ := four_new ho; clear ho))
    refine (spec_tmKind.calls 3000 (B t.text) _ _ hkd).mono ?_
    rintro e w1 ⟨rfl, hd1⟩
    have hq : Q4 w w1 g (fun _ => 0) := ⟨below_then hb hb.size hd1.below, hfour.below hd1.below, hgb⟩
    have HQ := Lib.hid hq
    have HGC := Lib.hid hgc
    clear hd1 hq hkd hb hfour hgb hgc
    have z0 : w1.cell? ⟨g, 0, none⟩ = some (.int .i64 0) := (HQ.out.four.cell (i := 0) (by omega)).1
    have z1 : w1.cell? ⟨g, 1, none⟩ = some (.int .i64 0) := (HQ.out.four.cell (i := 1) (by omega)).1
    have z2 : w1.cell? ⟨g, 2, none⟩ = some (.int .i64 0) := (HQ.out.four.cell (i := 2) (by omega)).1
    have z3 : w1.cell? ⟨g, 3, none⟩ = some (.int .i64 0) := (HQ.out.four.cell (i := 3) (by omega)).1
    have y0 := (HQ.out.four.cell (i := 0) (by omega)).2
    have y1 := (HQ.out.four.cell (i := 1) (by omega)).2
    have y2 := (HQ.out.four.cell (i := 2) (by omega)).2
    have y3 := (HQ.out.four.cell (i := 3) (by omega)).2
    go_upto_block 0 with fail
    go_cut [] (fun wc => Q4 w wc g (ow a t.kind t.na t.nb))
    case first =>
      have q1 : (vl t.kind == 33) = decide (t.kind = 33) := eq_v 33
      have q2 : (vl t.kind == 61) = decide (t.kind = 61) := eq_v 61
      have q3 : (vl t.kind == 63) = decide (t.kind = 63) := eq_v 63
      have r1 := eq_v (x := t.na) a
      have r2 := eq_v (x := t.nb) a
      have hh := HHB.out
      by_cases h1 : t.kind = 33
      · obtain ⟨g0, g2, gl⟩ := hh.1 (.inl h1)
        have b0 := byte_is g0
        have b2 := byte_is g2
        rw [decide_eq_true h1] at q1
        clear hh g0 g2 q2 q3
        by_cases h2 : t.na = a
        · by_cases h3 : t.nb = a
          · have HV : Hid (∀ j, j < 4 → (if j = 2 then 1 else if j = 0 then 1 else 0) = ow a t.kind t.na t.nb j) := fun j hj => by rcases four_lt hj with rfl | rfl | rfl | rfl <;> simp [ow, own4, h1, h2, h3]
            rw [decide_eq_true h2] at r1
            rw [decide_eq_true h3] at r2
            clear h1 h2 h3
            go_wp2_with fail
            go_meet
            case rel => exact (HQ.out.set (i := 0) (by omega) 1 (fun _ _ => rfl)).set (i := 2) (by omega) 1 HV.out
          · have HV : Hid (∀ j, j < 4 → (if j = 0 then 1 else 0) = ow a t.kind t.na t.nb j) := fun j hj => by rcases four_lt hj with rfl | rfl | rfl | rfl <;> simp [ow, own4, h1, h2, h3]
            rw [decide_eq_true h2] at r1
            rw [decide_eq_false h3] at r2
            clear h1 h2 h3
            go_wp2_with fail
            go_meet
            case rel => exact HQ.out.set (i := 0) (by omega) 1 HV.out
        · by_cases h3 : t.nb = a
          · have HV : Hid (∀ j, j < 4 → (if j = 2 then 1 else 0) = ow a t.kind t.na t.nb j) := fun j hj => by rcases four_lt hj with rfl | rfl | rfl | rfl <;> simp [ow, own4, h1, h2, h3]
            rw [decide_eq_false h2] at r1
            rw [decide_eq_true h3] at r2
            clear h1 h2 h3
            go_wp2_with fail
            go_meet
            case rel => exact HQ.out.set (i := 2) (by omega) 1 HV.out
          · have HV : Hid (∀ j, j < 4 → 0 = ow a t.kind t.na t.nb j) := fun j hj => by rcases four_lt hj with rfl | rfl | rfl | rfl <;> simp [ow, own4, h1, h2, h3]
            rw [decide_eq_false h2] at r1
            rw [decide_eq_false h3] at r2
            clear h1 h2 h3
            go_wp2_with fail
            go_meet
            case rel => exact HQ.out.congr HV.out
      by_cases h1b : t.kind = 63
      · obtain ⟨g0, g2, gl⟩ := hh.1 (.inr h1b)
        have b0 := byte_is g0
        rw [decide_eq_false h1] at q1
        rw [decide_eq_true h1b] at q3
        clear hh g0 g2 q2 h1
        by_cases h2 : t.na = a
        · have HV : Hid (∀ j, j < 4 → (if j = 1 then 1 else 0) = ow a t.kind t.na t.nb j) := fun j hj => by rcases four_lt hj with rfl | rfl | rfl | rfl <;> simp [ow, own4, h1b, h2]
          rw [decide_eq_true h2] at r1
          clear h1b h2
          go_wp2_with fail
          go_meet
          case rel => exact HQ.out.set (i := 1) (by omega) 1 HV.out
        · have HV : Hid (∀ j, j < 4 → 0 = ow a t.kind t.na t.nb j) := fun j hj => by rcases four_lt hj with rfl | rfl | rfl | rfl <;> simp [ow, own4, h1b, h2]
          rw [decide_eq_false h2] at r1
          clear h1b h2
          go_wp2_with fail
          go_meet
          case rel => exact HQ.out.congr HV.out
      by_cases h1c : t.kind = 61
      · obtain ⟨g1, g3, gl⟩ := hh.2 h1c
        have b1 := byte_is g1
        have b3 := byte_is g3
        rw [decide_eq_false h1] at q1
        rw [decide_eq_false h1b] at q3
        rw [decide_eq_true h1c] at q2
        clear hh g1 g3 h1 h1b
        by_cases h2 : t.na = a
        · have HV : Hid (∀ j, j < 4 → (if j = 3 then 1 else 0) = ow a t.kind t.na t.nb j) := fun j hj => by rcases four_lt hj with rfl | rfl | rfl | rfl <;> simp [ow, own4, h1c, h2]
          rw [decide_eq_true h2] at r1
          clear h1c h2
          go_wp2_with fail
          go_meet
          case rel => exact HQ.out.set (i := 3) (by omega) 1 HV.out
        · by_cases h3 : t.nb = a
          · have HV : Hid (∀ j, j < 4 → (if j = 3 then 1 else 0) = ow a t.kind t.na t.nb j) := fun j hj => by rcases four_lt hj with rfl | rfl | rfl | rfl <;> simp [ow, own4, h1c, h2, h3]
            rw [decide_eq_false h2] at r1
            rw [decide_eq_true h3] at r2
            clear h1c h2 h3
            go_wp2_with fail
            go_meet
            case rel => exact HQ.out.set (i := 3) (by omega) 1 HV.out
          · have HV : Hid (∀ j, j < 4 → 0 = ow a t.kind t.na t.nb j) := fun j hj => by rcases four_lt hj with rfl | rfl | rfl | rfl <;> simp [ow, own4, h1c, h2, h3]
            rw [decide_eq_false h2] at r1
            rw [decide_eq_false h3] at r2
            clear h1c h2 h3
            go_wp2_with fail
            go_meet
            case rel => exact HQ.out.congr HV.out
      · have HV : Hid (∀ j, j < 4 → 0 = ow a t.kind t.na t.nb j) := fun j hj => by rcases four_lt hj with rfl | rfl | rfl | rfl <;> simp [ow, own4, h1, h1b, h1c]
        rw [decide_eq_false h1] at q1
        rw [decide_eq_false h1b] at q3
        rw [decide_eq_false h1c] at q2
        clear hh h1 h1b h1c
        go_wp2_with fail
        go_meet
        case rel => exact HQ.out.congr HV.out
    case rest =>
      have HQc := Lib.hid hcut
      clear hcut z0 z1 z2 z3 y0 y1 y2 y3
      by_cases hb : t.kind = 63 ∨ t.kind = 35
      · rw [if_pos hb] at hbd
        have r2 := eq_v (x := t.nb) a
        by_cases h3 : t.nb = a
        · have HU : Hid (∀ i, i < 4 → uf a t i = ow a t.kind t.na t.nb i) := fun i hi => by rw [HUF.out i hi, if_pos (by simp [stops, hb, h3])]
          rw [decide_eq_true h3] at r2
          clear hb h3
          go_wp2_with fail
          refine (spec_tmBinds.calls 3000 (B t.text) _ _ _ hbd).mono ?_
          rintro e w2 ⟨rfl, hd2⟩
          have HQ2 : Hid (Q4 w w2 g (ow a t.kind t.na t.nb)) := ⟨below_then HQc.out.below HQc.out.below.size hd2.below, HQc.out.four.below hd2.below, HQc.out.g0⟩
          clear hd2 hbd
          go_wp2_with fail
          go_ret
          exact ⟨g, c, rfl, HGC.out, HQ2.out.congr fun m hm => (HU.out m hm).symm⟩
        · have HU : Hid (∀ i, i < 4 → uf a t i = ufK a t.kids (ow a t.kind t.na t.nb) i) := fun i hi => by rw [HUF.out i hi, if_neg (by simp [stops, h3])]
          rw [decide_eq_false h3] at r2
          clear hb h3
          go_wp2_with fail
          refine (spec_tmBinds.calls 3000 (B t.text) _ _ _ hbd).mono ?_
          rintro e w2 ⟨rfl, hd2⟩
          have HQ2 : Hid (Q4 w w2 g (ow a t.kind t.na t.nb)) := ⟨below_then HQc.out.below HQc.out.below.size hd2.below, HQc.out.four.below hd2.below, HQc.out.g0⟩
          clear hd2 hbd
          go_wp2_with fail
          refine (spec_tmParts.calls 3000 (B t.text) _ _ hpt).mono ?_
          rintro e w3 ⟨v, rfl, R, hb3⟩
          obtain ⟨A, cp, rfl⟩ := Kd.R_slice R
          have hL : (t.kids.map fun u => B u.text).length = t.kids.length := by simp
          have HQ3 : Hid (Q4 w w3 g (ow a t.kind t.na t.nb)) := ⟨below_then HQ2.out.below HQ2.out.below.size hb3, HQ2.out.four.below hb3, HQ2.out.g0⟩
          have HR := Lib.hid R
          have hglt := HQ2.out.four.lt
          rw [hL]
          clear R hb3 hpt
          go_wp2_with fail
          go_loopw [78] (fun i wr => ∃ j : Nat, j ≤ t.kids.length ∧ i = .int .i64 j ∧ Q4 w wr g (ufK a (t.kids.take j) (ow a t.kind t.na t.nb)) ∧ w3.grownBy wr (some g)) (fun i _ => t.kids.length - (intOf i).toNat)
          case atStart => exact ⟨0, Nat.zero_le _, rfl, HQ3.out, World.grownBy.refl _ _⟩
          case round =>
            obtain ⟨j, hj, rfl, hq, hgr⟩ := hrel
            have HQr := Lib.hid hq
            have HGr := Lib.hid hgr
            clear hq hgr
            by_cases hlt : j < t.kids.length
            · obtain ⟨gp, cap, he, hgb, hgl, cells, hcs⟩ := Kd.R_form HR.out (by rw [hL]; omega)
              injection he with he1 _ he2
              subst he1 he2
              have hne : gp ≠ g := by omega
              have hcs2 := (HGr.out.block _ hgl (by intro h; injection h; omega)).trans hcs
              have hcell := (Kd.R_cell ByteArray.empty HR.out (j : Int) (by omega) (by omega)).1
              rw [Int.toNat_natCast, blk_cell hcs j] at hcell
              have hrd : rdOf ByteArray.empty (t.kids.map fun u => B u.text) (j : Int) = B t.kids[j].text := by
                unfold rdOf; simp [List.getD, List.getElem?_eq_getElem hlt]
              rw [hrd] at hcell
              have hc2 : wr.cell? ⟨gp, j, none⟩ = some (.string (B t.kids[j].text)) := by rw [blk_cell hcs2 j]; exact hcell
              have h2 := kid_sz t j hlt
              have hrec := ih t.kids[j] wr (by omega) (by omega) (kid_w HW.out j hlt) (by have := kid_txt t j hlt; omega)
              have hbk := fun m => ufK_le a (t.kids.take j) (ow a t.kind t.na t.nb) m
              have h3 := take_sz t.kids j
              have h4 := kids_sz t
              have hbd2 := fun m => uf_le a t.kids[j] m
              have HB : Hid (∀ m, ufK a (t.kids.take j) (ow a t.kind t.na t.nb) m ≤ 200 ∧ uf a t.kids[j] m ≤ 200) := fun m => by
                have := hbk m
                have := hbd2 m
                have := own4_le a t.kind t.na t.nb m
                unfold ow at *
                omega
              have hS := Lib.hid (ufK_take_succ a t.kids (ow a t.kind t.na t.nb) j hlt)
              clear hcs hcs2 hcell hrd hne hgb hgl h3 h4 hbk hbd2
              go_wp2_with fail
              refine hrec.mono ?_
              rintro e w4 ⟨g2, cc, rfl, hcc, hq2⟩
              have hg2 : g < g2 := Nat.lt_of_lt_of_le HQr.out.four.lt hq2.g0
              have HQ4b : Hid (Q4 w w4 g (ufK a (t.kids.take j) (ow a t.kind t.na t.nb))) := ⟨below_then HQr.out.below HQr.out.below.size hq2.below, HQr.out.four.below hq2.below, HQr.out.g0⟩
              have HF4 := Lib.hid hq2.four
              have HG4 := Lib.hid (grown_more HGr.out (grown_of hq2.below))
              clear hq2 hrec hc2
              go_wp2_with fail
              go_loopw [86] (fun i wx => ∃ k : Nat, k ≤ 4 ∧ i = .int .i64 k ∧ Q4 w wx g (fun m => if m < k then ufK a (t.kids.take j) (ow a t.kind t.na t.nb) m + uf a t.kids[j] m else ufK a (t.kids.take j) (ow a t.kind t.na t.nb) m) ∧ FourAt wx g2 (uf a t.kids[j]) ∧ w3.grownBy wx (some g)) (fun i _ => 4 - (intOf i).toNat)
              case atStart => exact ⟨0, by omega, rfl, HQ4b.out.congr (fun m _ => by simp), HF4.out, HG4.out⟩
              case round =>
                obtain ⟨k, hk, rfl, hqx, hfx, hgx⟩ := hrel
                have HQx := Lib.hid hqx
                have HFx := Lib.hid hfx
                have HGx := Lib.hid hgx
                clear hqx hfx hgx
                by_cases hk4 : k < 4
                · have x1 := (HFx.out.cell hk4).1
                  have x2 : wr.cell? ⟨g, k, none⟩ = some (.int .i64 (ufK a (t.kids.take j) (ow a t.kind t.na t.nb) k : Nat)) := by
                    have := (HQx.out.four.cell hk4).1
                    simpa using this
                  have x3 := (HQx.out.four.cell hk4).2
                  have hbb := HB.out k
                  have HP := Lib.hid (HQx.out.set (f' := fun m => if m < k + 1 then ufK a (t.kids.take j) (ow a t.kind t.na t.nb) m + uf a t.kids[j] m else ufK a (t.kids.take j) (ow a t.kind t.na t.nb) m) hk4 (ufK a (t.kids.take j) (ow a t.kind t.na t.nb) k + uf a t.kids[j] k) (fun m _ => by
                    by_cases hm : m = k
                    · subst hm; simp
                    · simp only [if_neg hm]
                      by_cases hm2 : m < k
                      · rw [if_pos hm2, if_pos (by omega)]
                      · rw [if_neg hm2, if_neg (by omega)]))
                  have HGs := Lib.hid (grown_more HGx.out (grown_put wr g k (.int .i64 ((ufK a (t.kids.take j) (ow a t.kind t.na t.nb) k + uf a t.kids[j] k : Nat) : Int))))
                  have HFs := Lib.hid (HFx.out.grown (grown_put wr g k (.int .i64 ((ufK a (t.kids.take j) (ow a t.kind t.na t.nb) k + uf a t.kids[j] k : Nat) : Int))) (by omega))
                  rw [Int.natCast_add] at HP HGs HFs
                  go_wp2_with fail
                  go_roundw
                  case rel => exact ⟨k + 1, by omega, by go_num, HP.out, HFs.out, HGs.out⟩
                  case measure => simp [intOf]; omega
                · have HQe : Hid (Q4 w wr g (ufK a (t.kids.take (j + 1)) (ow a t.kind t.na t.nb))) := HQx.out.congr (fun m hm => by rw [if_pos (by omega), hS.out])
                  go_wp2_with fail
                  go_roundw
                  case rel => exact ⟨j + 1, by omega, by go_num, HQe.out, HGx.out⟩
                  case measure => simp [intOf]; omega
            · have HF : Hid (ufK a (t.kids.take j) (ow a t.kind t.na t.nb) = ufK a t.kids (ow a t.kind t.na t.nb)) := by
                show _ = _
                rw [List.take_of_length_le (by omega)]
              go_wp2_with fail
              go_ret
              exact ⟨g, c, rfl, HGC.out, by have h := HQr.out; rw [HF.out] at h; exact h.congr fun m hm => (HU.out m hm).symm⟩
      · rw [if_neg hb] at hbd
        have HU : Hid (∀ i, i < 4 → uf a t i = ufK a t.kids (ow a t.kind t.na t.nb) i) := fun i hi => by rw [HUF.out i hi, if_neg (by simp [stops, hb])]
        clear hb
        go_wp2_with fail
        refine (spec_tmBinds.calls 3000 (B t.text) _ _ _ hbd).mono ?_
        rintro e w2 ⟨rfl, hd2⟩
        have HQ2 : Hid (Q4 w w2 g (ow a t.kind t.na t.nb)) := ⟨below_then HQc.out.below HQc.out.below.size hd2.below, HQc.out.four.below hd2.below, HQc.out.g0⟩
        clear hd2 hbd
        go_wp2_with fail
        refine (spec_tmParts.calls 3000 (B t.text) _ _ hpt).mono ?_
        rintro e w3 ⟨v, rfl, R, hb3⟩
        obtain ⟨A, cp, rfl⟩ := Kd.R_slice R
        have hL : (t.kids.map fun u => B u.text).length = t.kids.length := by simp
        have HQ3 : Hid (Q4 w w3 g (ow a t.kind t.na t.nb)) := ⟨below_then HQ2.out.below HQ2.out.below.size hb3, HQ2.out.four.below hb3, HQ2.out.g0⟩
        have HR := Lib.hid R
        have hglt := HQ2.out.four.lt
        rw [hL]
        clear R hb3 hpt
        go_wp2_with fail
        go_loopw [78] (fun i wr => ∃ j : Nat, j ≤ t.kids.length ∧ i = .int .i64 j ∧ Q4 w wr g (ufK a (t.kids.take j) (ow a t.kind t.na t.nb)) ∧ w3.grownBy wr (some g)) (fun i _ => t.kids.length - (intOf i).toNat)
        case atStart => exact ⟨0, Nat.zero_le _, rfl, HQ3.out, World.grownBy.refl _ _⟩
        case round =>
          obtain ⟨j, hj, rfl, hq, hgr⟩ := hrel
          have HQr := Lib.hid hq
          have HGr := Lib.hid hgr
          clear hq hgr
          by_cases hlt : j < t.kids.length
          · obtain ⟨gp, cap, he, hgb, hgl, cells, hcs⟩ := Kd.R_form HR.out (by rw [hL]; omega)
            injection he with he1 _ he2
            subst he1 he2
            have hne : gp ≠ g := by omega
            have hcs2 := (HGr.out.block _ hgl (by intro h; injection h; omega)).trans hcs
            have hcell := (Kd.R_cell ByteArray.empty HR.out (j : Int) (by omega) (by omega)).1
            rw [Int.toNat_natCast, blk_cell hcs j] at hcell
            have hrd : rdOf ByteArray.empty (t.kids.map fun u => B u.text) (j : Int) = B t.kids[j].text := by
              unfold rdOf; simp [List.getD, List.getElem?_eq_getElem hlt]
            rw [hrd] at hcell
            have hc2 : wr.cell? ⟨gp, j, none⟩ = some (.string (B t.kids[j].text)) := by rw [blk_cell hcs2 j]; exact hcell
            have h2 := kid_sz t j hlt
            have hrec := ih t.kids[j] wr (by omega) (by omega) (kid_w HW.out j hlt) (by have := kid_txt t j hlt; omega)
            have hbk := fun m => ufK_le a (t.kids.take j) (ow a t.kind t.na t.nb) m
            have h3 := take_sz t.kids j
            have h4 := kids_sz t
            have hbd2 := fun m => uf_le a t.kids[j] m
            have HB : Hid (∀ m, ufK a (t.kids.take j) (ow a t.kind t.na t.nb) m ≤ 200 ∧ uf a t.kids[j] m ≤ 200) := fun m => by
              have := hbk m
              have := hbd2 m
              have := own4_le a t.kind t.na t.nb m
              unfold ow at *
              omega
            have hS := Lib.hid (ufK_take_succ a t.kids (ow a t.kind t.na t.nb) j hlt)
            clear hcs hcs2 hcell hrd hne hgb hgl h3 h4 hbk hbd2
            go_wp2_with fail
            refine hrec.mono ?_
            rintro e w4 ⟨g2, cc, rfl, hcc, hq2⟩
            have hg2 : g < g2 := Nat.lt_of_lt_of_le HQr.out.four.lt hq2.g0
            have HQ4b : Hid (Q4 w w4 g (ufK a (t.kids.take j) (ow a t.kind t.na t.nb))) := ⟨below_then HQr.out.below HQr.out.below.size hq2.below, HQr.out.four.below hq2.below, HQr.out.g0⟩
            have HF4 := Lib.hid hq2.four
            have HG4 := Lib.hid (grown_more HGr.out (grown_of hq2.below))
            clear hq2 hrec hc2
            go_wp2_with fail
            go_loopw [86] (fun i wx => ∃ k : Nat, k ≤ 4 ∧ i = .int .i64 k ∧ Q4 w wx g (fun m => if m < k then ufK a (t.kids.take j) (ow a t.kind t.na t.nb) m + uf a t.kids[j] m else ufK a (t.kids.take j) (ow a t.kind t.na t.nb) m) ∧ FourAt wx g2 (uf a t.kids[j]) ∧ w3.grownBy wx (some g)) (fun i _ => 4 - (intOf i).toNat)
            case atStart => exact ⟨0, by omega, rfl, HQ4b.out.congr (fun m _ => by simp), HF4.out, HG4.out⟩
            case round =>
              obtain ⟨k, hk, rfl, hqx, hfx, hgx⟩ := hrel
              have HQx := Lib.hid hqx
              have HFx := Lib.hid hfx
              have HGx := Lib.hid hgx
              clear hqx hfx hgx
              by_cases hk4 : k < 4
              · have x1 := (HFx.out.cell hk4).1
                have x2 : wr.cell? ⟨g, k, none⟩ = some (.int .i64 (ufK a (t.kids.take j) (ow a t.kind t.na t.nb) k : Nat)) := by
                  have := (HQx.out.four.cell hk4).1
                  simpa using this
                have x3 := (HQx.out.four.cell hk4).2
                have hbb := HB.out k
                have HP := Lib.hid (HQx.out.set (f' := fun m => if m < k + 1 then ufK a (t.kids.take j) (ow a t.kind t.na t.nb) m + uf a t.kids[j] m else ufK a (t.kids.take j) (ow a t.kind t.na t.nb) m) hk4 (ufK a (t.kids.take j) (ow a t.kind t.na t.nb) k + uf a t.kids[j] k) (fun m _ => by
                  by_cases hm : m = k
                  · subst hm; simp
                  · simp only [if_neg hm]
                    by_cases hm2 : m < k
                    · rw [if_pos hm2, if_pos (by omega)]
                    · rw [if_neg hm2, if_neg (by omega)]))
                have HGs := Lib.hid (grown_more HGx.out (grown_put wr g k (.int .i64 ((ufK a (t.kids.take j) (ow a t.kind t.na t.nb) k + uf a t.kids[j] k : Nat) : Int))))
                have HFs := Lib.hid (HFx.out.grown (grown_put wr g k (.int .i64 ((ufK a (t.kids.take j) (ow a t.kind t.na t.nb) k + uf a t.kids[j] k : Nat) : Int))) (by omega))
                rw [Int.natCast_add] at HP HGs HFs
                go_wp2_with fail
                go_roundw
                case rel => exact ⟨k + 1, by omega, by go_num, HP.out, HFs.out, HGs.out⟩
                case measure => simp [intOf]; omega
              · have HQe : Hid (Q4 w wr g (ufK a (t.kids.take (j + 1)) (ow a t.kind t.na t.nb))) := HQx.out.congr (fun m hm => by rw [if_pos (by omega), hS.out])
                go_wp2_with fail
                go_roundw
                case rel => exact ⟨j + 1, by omega, by go_num, HQe.out, HGx.out⟩
                case measure => simp [intOf]; omega
          · have HF : Hid (ufK a (t.kids.take j) (ow a t.kind t.na t.nb) = ufK a t.kids (ow a t.kind t.na t.nb)) := by
              show _ = _
              rw [List.take_of_length_le (by omega)]
            go_wp2_with fail
            go_ret
            exact ⟨g, c, rfl, HGC.out, by have h := HQr.out; rw [HF.out] at h; exact h.congr fun m hm => (HU.out m hm).symm⟩

end Go.Proofs.YtjgfgjhaghbehaaGreat.PsoPlace
