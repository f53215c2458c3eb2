/- The walk of alpha: whether two terms are alike by names. -/
import Derived.Test.YtjinjanjjecmiaaFree
import Derived.Test.YtjinjanjjecmiaaAlphaP
import Derived.Laws.Rows
import Derived.Deep.MidRow
import Derived.Deep.LoopGhost
namespace Go.Proofs.Ytjinjanjjecmiaa
open Go.RowKit Go.Proofs.YtjinjanjjecmiaaW.PrintWords Go.Proofs.YtjinjanjjecmiaaW.PrintLast Go.Proofs.YtjinjanjjecmiaaW.PrintMore
set_option linter.unusedVariables false
set_option linter.unusedSimpArgs false

/-- The levels of all letters. -/
def levL (X : List UInt8) : List Value := (List.range 26).map fun i => Value.int .i64 (lev X (letAt i))
def levA (X : List UInt8) : Array Value := (levL X).toArray
theorem levL_len (X : List UInt8) : (levL X).length = 26 := by simp [levL]
theorem levA_size (X : List UInt8) : (levA X).size = 26 := by simp [levA, levL]
theorem levA_get (X : List UInt8) {i : Nat} (hi : i < 26) : (levA X)[i]? = some (.int .i64 (lev X (letAt i))) := by
  simp [levA, levL, List.getElem?_range hi]
/-- A block with the levels of all letters. -/
def Levs (w : World) (g : Nat) (X : List UInt8) : Prop := ∃ e, w.heap[g]? = some (.cells (levA X) e (0, 0))
theorem Levs.cell {w : World} {g : Nat} {X : List UInt8} (h : Levs w g X) {i : Nat} (hi : i < 26) : w.cell? ⟨g, i, none⟩ = some (.int .i64 (lev X (letAt i))) := by
  obtain ⟨e, h⟩ := h; rw [blk_cell h]; exact levA_get X hi
theorem Levs.drewN {w : World} {g : Nat} {X : List UInt8} (h : Levs w g X) (m : Nat) : Levs (w.drewN m) g X := by
  obtain ⟨e, h⟩ := h; exact ⟨e, h⟩

set_option maxHeartbeats 1000000 in
theorem same_calls {a b : UInt8} (ha : isLet a = true) (hb : isLet b = true) (w : World) (g1 g2 : Nat) (X Y : List UInt8) (h1 : Levs w g1 X) (h2 : Levs w g2 Y) (hX : X.length ≤ 1000000) (hY : Y.length ≤ 1000000) :
    Calls Try.prog 97 #[.int .u8 (vl a), .int .u8 (vl b), .pointer (some ⟨g1, 0, none⟩), .pointer (some ⟨g2, 0, none⟩)] w fun e w' => e = .returned (.bool (sameI X Y a b)) ∧ ∃ m, w' = w.drewN m := by
  obtain ⟨i, hi, hv, rfl⟩ := let_index ha
  obtain ⟨j, hj, hv2, rfl⟩ := let_index hb
  have hx := lev_le X (letAt i)
  have hy := lev_le Y (letAt j)
  have c1 := h1.cell hi
  have c2 := h2.cell hj
  have HS : Hid (sameI X Y (letAt i) (letAt j) = (decide (lev X (letAt i) = lev Y (letAt j)) && (decide (0 < lev X (letAt i)) || decide (i = j)))) := by
    have : letAt i = letAt j ↔ i = j := ⟨fun h => by have := congrArg vl h; rw [hv, hv2] at this; omega, fun h => by rw [h]⟩
    simp only [Hid, sameI, this]
  rw [hv, hv2]
  generalize lev X (letAt i) = p at c1 HS hx
  generalize lev Y (letAt j) = q at c2 HS hy
  have e1 : ((97 : Int) + i - 97) = i := by omega
  have e2 : ((97 : Int) + j - 97) = j := by omega
  clear h1 h2 hv hv2 ha hb
  have hp0 : (0 : Int) ≤ (p : Int) := Int.natCast_nonneg p
  by_cases hpq : p = q
  · subst hpq
    by_cases hp : 0 < p
    · have hp1 : (0 : Int) < (p : Int) := by omega
      go_enter Try.func97, Try.ntmps97
      go_wp2_with fail
      go_quiet (fail)
      go_wp2_with fail
      go_ret
      exact ⟨by rw [HS.out]; simp [hp], _, rfl⟩
    · have hp1 : ¬ (0 : Int) < (p : Int) := by omega
      go_enter Try.func97, Try.ntmps97
      go_wp2_with fail
      go_quiet (fail)
      go_wp2_with fail
      go_ret
      exact ⟨by rw [HS.out]; simp [hp]; rw [Bool.eq_iff_iff]; simp; omega, _, rfl⟩
  · have hpq1 : ((p : Int) == (q : Int)) = false := by rw [beq_eq_false_iff_ne]; omega
    go_enter Try.func97, Try.ntmps97
    go_wp2_with fail
    go_quiet (fail)
    go_wp2_with fail
    go_ret
    exact ⟨by rw [HS.out]; simp [hpq], _, rfl⟩

theorem lev_cons_get (d : UInt8) (X : List UInt8) (c : UInt8) : lev (d :: X) c = if c = d then X.length + 1 else lev X c := rfl
theorem letAt_iff {i j : Nat} (hi : i < 26) (hj : j < 26) : letAt i = letAt j ↔ i = j := by
  have h1 := letAt_vl (i := i) (by omega)
  have h2 := letAt_vl (i := j) (by omega)
  exact ⟨fun h => by have := congrArg vl h; rw [h1, h2] at this; omega, fun h => by rw [h]⟩
theorem levA_cons (X : List UInt8) {i : Nat} (hi : i < 26) : (levA X).setIfInBounds i (.int .i64 ((X.length + 1 : Nat) : Int)) = levA (letAt i :: X) := by
  apply Array.ext
  · simp [levA, levL]
  · intro j h1 h2
    have hj : j < 26 := by simpa [levA, levL] using h2
    rw [Array.getElem_setIfInBounds (by simpa [levA, levL] using hj)]
    simp only [levA, levL, List.getElem_toArray, List.getElem_map, List.getElem_range, lev_cons_get, letAt_iff hj hi]
    by_cases h : i = j
    · subst h; simp
    · rw [if_neg h, if_neg (fun h' => h h'.symm)]
theorem Levs.put {w : World} {g : Nat} {X : List UInt8} (h : Levs w g X) {i : Nat} (hi : i < 26) : Levs (w.setCell ⟨g, i, none⟩ (.int .i64 ((X.length + 1 : Nat) : Int))) g (letAt i :: X) := by
  obtain ⟨e, h⟩ := h
  exact ⟨e, by rw [← levA_cons X hi]; exact blk_put h i _ rfl⟩
theorem Levs.far {w : World} {g g' : Nat} {X : List UInt8} (h : Levs w g X) (hg : g' ≠ g) (i : Nat) (v : Value) : Levs (w.setCell ⟨g', i, none⟩ v) g X := by
  obtain ⟨e, h⟩ := h
  exact ⟨e, by rw [Below.heap_setCell _ _ _ _ (show g ≠ g' from fun h => hg h.symm)]; exact h⟩
theorem Levs.lt {w : World} {g : Nat} {X : List UInt8} (h : Levs w g X) : g < w.heap.size := by obtain ⟨e, h⟩ := h; exact blk_lt h
theorem Levs.below {w w' : World} {g : Nat} {X : List UInt8} (h : Levs w g X) (hb : Below w.heap.size w w') : Levs w' g X := by
  have hl := h.lt
  obtain ⟨e, h⟩ := h; exact ⟨e, (hb.block _ hl).trans h⟩
theorem Levs.load {w : World} {g : Nat} {X : List UInt8} (h : Levs w g X) : (loadVar 62 ⟨g, 0, none⟩).run Try.prog w = .ok (.agg (levA X)) w := by
  obtain ⟨e, h⟩ := h
  exact run_loadVar_row w g e _ (levA X) (0, 0) _ h Try.underlying62 rfl (by rw [levA_size]; kernel_rfl)

theorem Levs.range {w : World} {g : Nat} {X : List UInt8} (h : Levs w g X) : w.rangeAt g 0 (levL X) := fun j v hv => by
  obtain ⟨e, h⟩ := h
  rw [Nat.zero_add, blk_cell h]
  exact (by simpa [levA] using hv)
/-- Part by part. -/
def alps : List Tm → List Tm → List UInt8 → List UInt8 → Bool
  | t :: l, u :: m, X, Y => alp t u X Y && alps l m X Y
  | _, _, _, _ => true
/-- What a sign asks. -/
theorem alp_kids {t u : Tm} (h : Wf isLet t) (h2 : Wf isLet u) (hk : t.kind = u.kind) (X Y : List UInt8) : t.kids.length = u.kids.length ∧ (
    ((t.kind = 33 ∨ t.kind = 61) ∧ isLet t.na = true ∧ isLet t.nb = true ∧ isLet u.na = true ∧ isLet u.nb = true ∧ alp t u X Y = (sameI X Y t.na u.na && sameI X Y t.nb u.nb && alps t.kids u.kids X Y)) ∨
    (t.kind = 63 ∧ isLet t.na = true ∧ isLet t.nb = true ∧ isLet u.na = true ∧ isLet u.nb = true ∧ alp t u X Y = (sameI X Y t.na u.na && alps t.kids u.kids (t.nb :: X) (u.nb :: Y))) ∨
    (t.kind = 35 ∧ t.na = 0 ∧ isLet t.nb = true ∧ isLet u.nb = true ∧ alp t u X Y = alps t.kids u.kids (t.nb :: X) (u.nb :: Y)) ∨
    (t.kind ≠ 63 ∧ t.kind ≠ 35 ∧ t.na = 0 ∧ t.nb = 0 ∧ alp t u X Y = alps t.kids u.kids X Y)) := by
  cases t with
  | leaf k a b =>
    obtain ⟨rfl, rfl, rfl⟩ := h
    cases u with
    | leaf k2 c d => obtain ⟨rfl, rfl, rfl⟩ := h2; exact ⟨rfl, .inr (.inr (.inr ⟨by decide, by decide, rfl, rfl, by simp [alp, alps, Tm.kids]⟩))⟩
    | un k2 c d v => obtain ⟨m1, _⟩ := kind_un h2; exact absurd hk.symm m1
    | bin k2 c d v z => exact absurd hk (by rcases kind_bin h2 with rfl | rfl <;> (simp only [Tm.kind]; decide))
  | un k a b v =>
    obtain ⟨m1, m2, m3⟩ := kind_un h
    cases u with
    | leaf k2 c d => obtain rfl := kind_leaf h2; exact absurd hk m1
    | bin k2 c d v2 z2 => exact absurd hk (by rcases kind_bin h2 with rfl | rfl <;> simp only [Tm.kind] <;> assumption)
    | un k2 c d v2 =>
      simp only [Tm.kind] at hk
      subst hk
      refine ⟨rfl, ?_⟩
      simp only [Tm.kind, Tm.na, Tm.nb, alp, decide_true, Bool.true_and, Tm.kids, alps, Bool.and_true]
      rcases h.1 with ⟨hk, ha, hb⟩ | ⟨rfl, ha, hb⟩ | ⟨hk, ha, hb⟩
      · rcases h2.1 with ⟨_, hc, hd⟩ | ⟨h', _⟩ | ⟨h', _⟩
        · rcases hk with rfl | rfl | rfl
          · exact .inl ⟨.inl rfl, ha, hb, hc, hd, by simp⟩
          · exact .inr (.inl ⟨rfl, ha, hb, hc, hd, by simp⟩)
          · exact .inl ⟨.inr rfl, ha, hb, hc, hd, by simp⟩
        · subst h'; exact absurd hk (by decide)
        · rcases h' with rfl | rfl <;> exact absurd hk (by decide)
      · rcases h2.1 with ⟨h', _⟩ | ⟨_, hc, hd⟩ | ⟨h', _⟩
        · exact absurd h' (by decide)
        · exact .inr (.inr (.inl ⟨rfl, ha, hb, hd, by simp⟩))
        · exact absurd h' (by decide)
      · subst ha hb
        rcases hk with rfl | rfl <;> exact .inr (.inr (.inr ⟨by decide, by decide, rfl, rfl, by simp⟩))
  | bin k a b v z =>
    obtain ⟨hk0, rfl, rfl, _, _⟩ := h
    cases u with
    | leaf k2 c d => obtain rfl := kind_leaf h2; exact absurd hk (by rcases hk0 with rfl | rfl <;> (simp only [Tm.kind]; decide))
    | un k2 c d v2 => obtain ⟨m1, m2, m3⟩ := kind_un h2; exact absurd hk.symm (by rcases hk0 with rfl | rfl <;> simp only [Tm.kind] <;> assumption)
    | bin k2 c d v2 z2 =>
      simp only [Tm.kind] at hk
      subst hk
      refine ⟨rfl, .inr (.inr (.inr ?_))⟩
      simp only [Tm.kind, Tm.na, Tm.nb, alp, decide_true, Bool.true_and, Tm.kids, alps, Bool.and_true]
      rcases hk0 with rfl | rfl <;> exact ⟨by decide, by decide, trivial, trivial, trivial⟩
theorem alp_kind {t u : Tm} (hk : ¬ t.kind = u.kind) (X Y : List UInt8) : alp t u X Y = false := by
  cases t <;> cases u <;> simp only [alp] <;> (rw [decide_eq_false (by simpa only [Tm.kind] using hk)]; try rfl)
theorem alps_take {l m : List Tm} {X Y : List UInt8} : ∀ (k : Nat) (h1 : k < l.length) (h2 : k < m.length), alps (l.take (k + 1)) (m.take (k + 1)) X Y = (alps (l.take k) (m.take k) X Y && alp l[k] m[k] X Y) := by
  induction l generalizing m with
  | nil => intro k h1; simp at h1
  | cons t l ih =>
    intro k h1 h2
    cases m with
    | nil => simp at h2
    | cons u m =>
      cases k with
      | zero => simp [alps]
      | succ k =>
        simp only [List.take_succ_cons, alps, List.getElem_cons_succ]
        rw [ih k (by simpa using h1) (by simpa using h2), Bool.and_assoc]
theorem alps_false {l m : List Tm} {X Y : List UInt8} : ∀ (k : Nat) (h1 : k < l.length) (h2 : k < m.length), alp l[k] m[k] X Y = false → alps l m X Y = false := by
  induction l generalizing m with
  | nil => intro k h1; simp at h1
  | cons t l ih =>
    intro k h1 h2 h
    cases m with
    | nil => simp at h2
    | cons u m =>
      cases k with
      | zero => simp only [List.getElem_cons_zero] at h; simp [alps, h]
      | succ k =>
        simp only [List.getElem_cons_succ] at h
        simp [alps, ih k (by simpa using h1) (by simpa using h2) h]

end Go.Proofs.Ytjinjanjjecmiaa
