/- The walk of canonical: a term with canonical names. -/
import Derived.Test.YtfcadppidgkoaaaCanP
import Derived.Test.YtfcadppidgkoaaaRenW
import Derived.Deep.MidRow
namespace Go.Proofs.Ytfcadppidgkoaaa
open Go.RowKit Go.Proofs.YtfcadppidgkoaaaW.PrintWords Go.Proofs.YtfcadppidgkoaaaW.PrintLast Go.Proofs.YtfcadppidgkoaaaW.PrintMore
set_option linter.unusedVariables false
set_option linter.unusedSimpArgs false

def beL (e : UInt8 → UInt8) : List Value := (List.range 26).map fun i => Value.int .u8 (vl (e (letAt i)))
def beA (e : UInt8 → UInt8) : Array Value := (beL e).toArray
theorem beL_len (e : UInt8 → UInt8) : (beL e).length = 26 := by simp [beL]
theorem beA_size (e : UInt8 → UInt8) : (beA e).size = 26 := by simp [beA, beL]
theorem beA_get (e : UInt8 → UInt8) {i : Nat} (hi : i < 26) : (beA e)[i]? = some (.int .u8 (vl (e (letAt i)))) := by simp [beA, beL, List.getElem?_range hi]
def BeAt (w : World) (g : Nat) (e : UInt8 → UInt8) : Prop := ∃ t, w.heap[g]? = some (.cells (beA e) t (0, 0))
section
variable {w w' : World} {g : Nat} {e : UInt8 → UInt8}
theorem BeAt.cell (h : BeAt w g e) {i : Nat} (hi : i < 26) : w.cell? ⟨g, i, none⟩ = some (.int .u8 (vl (e (letAt i)))) := by
  obtain ⟨t, h⟩ := h; rw [blk_cell h]; exact beA_get e hi
theorem BeAt.frozen (h : BeAt w g e) (i : Nat) : w.frozen? ⟨g, i, none⟩ = false := by obtain ⟨t, h⟩ := h; exact blk_frozen h i
theorem BeAt.keep (h : BeAt w g e) (hk : w'.heap[g]? = w.heap[g]?) : BeAt w' g e := by obtain ⟨t, h⟩ := h; exact ⟨t, hk.trans h⟩
theorem BeAt.lt (h : BeAt w g e) : g < w.heap.size := by obtain ⟨t, h⟩ := h; exact blk_lt h
theorem BeAt.range (h : BeAt w g e) : w.rangeAt g 0 (beL e) := fun j v hv => by
  obtain ⟨t, h⟩ := h
  rw [Nat.zero_add, blk_cell h]
  exact (by simpa [beA] using hv)
theorem letAt_same {i j : Nat} (hi : i < 26) (hj : j < 26) : letAt i = letAt j ↔ i = j := ⟨fun h => letAt_inj (by omega) (by omega) h, fun h => by rw [h]⟩
theorem BeAt.put (h : BeAt w g e) {i : Nat} (hi : i < 26) (c : UInt8) : BeAt (w.setCell ⟨g, i, none⟩ (.int .u8 (vl c))) g (eu e (letAt i) c) := by
  obtain ⟨t, h⟩ := h
  refine ⟨t, blk_put h i _ ?_⟩
  apply Array.ext
  · simp [beA, beL]
  · intro j h1 h2
    have hj : j < 26 := by simpa [beA, beL] using h2
    rw [Array.getElem_setIfInBounds (by simpa [beA, beL] using hj)]
    simp only [beA, beL, List.getElem_toArray, List.getElem_map, List.getElem_range, eu, letAt_same hj hi]
    by_cases h : i = j
    · subst h; simp
    · rw [if_neg h, if_neg (fun h' => h h'.symm)]
end
theorem be_new (w : World) (e : UInt8 → UInt8) (t : TypeId) : BeAt (w.alloc (.cells (beA e) t)) w.heap.size e := ⟨t, heap_alloc_new w _⟩

structure But (T : Nat) (w w' : World) : Prop where
  os : w'.os = w.os
  tape : w'.tape = w.tape
  output : w'.output = w.output
  size : w.heap.size ≤ w'.heap.size
  block : ∀ i, i < w.heap.size → i ≠ T → w'.heap[i]? = w.heap[i]?
section
variable {T : Nat} {w w' w'' : World}
theorem But.refl (T : Nat) (w : World) : But T w w := ⟨rfl, rfl, rfl, Nat.le_refl _, fun _ _ _ => rfl⟩
theorem But.of (h : Below w.heap.size w w') : But T w w' := ⟨h.os, h.tape, h.output, h.size, fun i hi _ => h.block i hi⟩
theorem But.trans (h : But T w w') (k : But T w' w'') : But T w w'' := ⟨k.os.trans h.os, k.tape.trans h.tape, k.output.trans h.output, Nat.le_trans h.size k.size, fun i hi hn => (k.block i (Nat.lt_of_lt_of_le hi h.size) hn).trans (h.block i hi hn)⟩
theorem But.put (h : But T w w') {g : Nat} (hg : w.heap.size ≤ g ∨ g = T) (i : Nat) (v : Value) : But T w (w'.setCell ⟨g, i, none⟩ v) :=
  ⟨h.os, h.tape, h.output, by simpa [World.setCell] using h.size, fun j hj hn => (Below.heap_setCell w' _ _ j (by simp; omega)).trans (h.block j hj hn)⟩
theorem But.cell (h : But T w w') {a : Addr} (ha : a.block < w.heap.size) (hn : a.block ≠ T) : w'.cell? a = w.cell? a := World.cell?_of_block (h.block _ ha hn)
end
def TkAt (w : World) (T : Nat) (p : UInt8 → Bool) : Prop := ∃ e, w.heap[T]? = some (.cells #[.int .u32 (setI p)] e (0, 0))
section
variable {T : Nat} {w w' : World} {p : UInt8 → Bool}
theorem TkAt.keep (h : TkAt w T p) (hk : w'.heap[T]? = w.heap[T]?) : TkAt w' T p := by obtain ⟨e, h⟩ := h; exact ⟨e, hk.trans h⟩
theorem TkAt.lt (h : TkAt w T p) : T < w.heap.size := by obtain ⟨e, h⟩ := h; exact blk_lt h
theorem TkAt.cell (h : TkAt w T p) : w.cell? ⟨T, 0, none⟩ = some (.int .u32 (setI p)) := by obtain ⟨e, h⟩ := h; exact blk_cell h 0
theorem TkAt.frozen (h : TkAt w T p) (i : Nat) : w.frozen? ⟨T, i, none⟩ = false := by obtain ⟨e, h⟩ := h; exact blk_frozen h i
theorem TkAt.put (h : TkAt w T p) (q : UInt8 → Bool) : TkAt (w.setCell ⟨T, 0, none⟩ (.int .u32 (setI q))) T q := by obtain ⟨e, h⟩ := h; exact ⟨e, blk_put h 0 _ rfl⟩
theorem TkAt.far (h : TkAt w T p) {g : Nat} (hg : g ≠ T) (i : Nat) (v : Value) : TkAt (w.setCell ⟨g, i, none⟩ v) T p := h.keep (Below.heap_setCell w _ _ _ (by simpa using Ne.symm hg))
end

def canL : List Tm → (UInt8 → UInt8) → (UInt8 → Bool) → Option (List Tm × (UInt8 → Bool))
  | [], _, p => some ([], p)
  | t :: ts, e, p => (canI t e p).bind fun r => (canL ts e r.2).map fun r2 => (r.1 :: r2.1, r2.2)
theorem canL_app (e : UInt8 → UInt8) : ∀ (A B : List Tm) (p : UInt8 → Bool), canL (A ++ B) e p = (canL A e p).bind fun r => (canL B e r.2).map fun r2 => (r.1 ++ r2.1, r2.2)
  | [], B, p => by simp only [List.nil_append, canL, Option.bind_some]; cases canL B e p <;> rfl
  | t :: A, B, p => by
    simp only [List.cons_append, canL]
    cases canI t e p with
    | none => rfl
    | some r =>
      simp only [Option.bind_some]
      rw [canL_app e A B r.2]
      cases canL A e r.2 with
      | none => rfl
      | some r2 =>
        simp only [Option.bind_some, Option.map_some]
        cases canL B e r2.2 <;> rfl
theorem canL_step {e : UInt8 → UInt8} {p q : UInt8 → Bool} {KL us : List Tm} {j : Nat} (hj : j < KL.length) (h : canL (KL.take j) e p = some (us, q)) : canL (KL.take (j + 1)) e p = (canI KL[j] e q).map fun r => (us ++ [r.1], r.2) := by
  rw [List.take_succ_eq_append_getElem hj, canL_app, h, Option.bind_some]
  simp only [canL]
  cases canI KL[j] e q <;> rfl
theorem canL_none {e : UInt8 → UInt8} {p : UInt8 → Bool} {KL : List Tm} {j : Nat} (h : canL (KL.take j) e p = none) : canL KL e p = none := by
  rw [← List.take_append_drop j KL, canL_app, h]; rfl
theorem can_kids {t : Tm} (h : Wf isLet t) (e : UInt8 → UInt8) (p : UInt8 → Bool) :
    ((t.kind = 33 ∨ t.kind = 61) ∧ isLet t.na = true ∧ isLet t.nb = true ∧ canI t e p = (canL t.kids e p).map fun r => (mkT t.kind (e t.na) (e t.nb) r.1, r.2)) ∨
    (t.kind = 63 ∧ isLet t.na = true ∧ isLet t.nb = true ∧ canI t e p = (freshOf p).bind fun c => (canL t.kids (eu e t.nb c) (orS p (eqS c))).map fun r => (mkT t.kind (e t.na) c r.1, r.2)) ∨
    (t.kind = 35 ∧ t.na = 0 ∧ isLet t.nb = true ∧ canI t e p = (freshOf p).bind fun c => (canL t.kids (eu e t.nb c) (orS p (eqS c))).map fun r => (mkT t.kind 0 c r.1, r.2)) ∨
    (t.kind ≠ 63 ∧ t.kind ≠ 35 ∧ t.na = 0 ∧ t.nb = 0 ∧ canI t e p = (canL t.kids e p).map fun r => (mkT t.kind 0 0 r.1, r.2)) := by
  cases t with
  | leaf k a b =>
    obtain ⟨rfl, rfl, rfl⟩ := h
    exact .inr (.inr (.inr ⟨by decide, by decide, rfl, rfl, rfl⟩))
  | un k a b u =>
    rcases h.1 with ⟨hk, ha, hb⟩ | ⟨rfl, rfl, hb⟩ | ⟨hk, rfl, rfl⟩
    · rcases hk with rfl | rfl | rfl
      · refine .inl ⟨.inl rfl, ha, hb, ?_⟩
        simp only [canI, Tm.kids, canL]
        rw [if_neg (by decide)]
        cases canI u e p <;> rfl
      · refine .inr (.inl ⟨rfl, ha, hb, ?_⟩)
        simp only [canI, Tm.kids, canL]
        rw [if_pos (by decide)]
        congr 1; funext c
        simp only [Tm.nb]
        cases canI u (eu e b c) (orS p (eqS c)) <;> rfl
      · refine .inl ⟨.inr rfl, ha, hb, ?_⟩
        simp only [canI, Tm.kids, canL]
        rw [if_neg (by decide)]
        cases canI u e p <;> rfl
    · refine .inr (.inr (.inl ⟨rfl, rfl, hb, ?_⟩))
      simp only [canI, Tm.kids, canL]
      rw [if_pos (by decide)]
      congr 1; funext c
      simp only [Tm.nb]
      cases canI u (eu e b c) (orS p (eqS c)) <;> rfl
    · have h1 : ¬ (k = 63 ∨ k = 35) := by rcases hk with rfl | rfl <;> decide
      have h2 : ¬ (k = 33 ∨ k = 61) := by rcases hk with rfl | rfl <;> decide
      refine .inr (.inr (.inr ⟨fun q => h1 (.inl q), fun q => h1 (.inr q), rfl, rfl, ?_⟩))
      simp only [canI, Tm.kids, canL]
      rw [if_neg h1]
      simp only [if_neg h2]
      cases canI u e p <;> rfl
  | bin k a b u v =>
    obtain ⟨hk, rfl, rfl, _⟩ := h
    refine .inr (.inr (.inr ⟨by simp only [Tm.kind]; rcases hk with rfl | rfl <;> decide, by simp only [Tm.kind]; rcases hk with rfl | rfl <;> decide, rfl, rfl, ?_⟩))
    simp only [canI, Tm.kids, canL]
    cases canI u e p with
    | none => rfl
    | some r => simp only [Option.bind_some]; cases canI v e r.2 <;> rfl

theorem LiesP.from_ge {w : World} {N : Nat} : ∀ {t : Tm} {b : Nat}, LiesP w (fun j => N ≤ j) t b → Lies w N t b
  | .leaf _ _ _, _, ⟨h0, o, cap, h⟩ => ⟨h0, o, cap, h⟩
  | .un _ _ _ _, _, ⟨h0, r, cap, x, h1, h, h2, h3⟩ => ⟨h0, r, cap, x, h1, h, h2, LiesP.from_ge h3⟩
  | .bin _ _ _ _ _, _, ⟨h0, r, cap, x, y, h1, h, h2, h2', h3, h4⟩ => ⟨h0, r, cap, x, y, h1, h, h2, h2', LiesP.from_ge h3, LiesP.from_ge h4⟩
def CanPost (w : World) (T : Nat) (o : Option (Tm × (UInt8 → Bool))) (e' : Ending) (w' : World) : Prop :=
  But T w w' ∧ match o with
    | some r => ∃ x, e' = .returned (.tuple #[.pointer (some ⟨x, 0, none⟩), .bool true]) ∧ Lies w' w.heap.size r.1 x ∧ TkAt w' T r.2
    | none => ∃ q, e' = .returned (.tuple #[.pointer q, .bool false])
def CanUpto (n : Nat) : Prop := ∀ (t : Tm) (e : UInt8 → UInt8) (p : UInt8 → Bool) (w : World) (P : Nat → Prop) (T b : Nat), t.size ≤ n → Wf isLet t → (∀ c, isLet c = true → isLet (e c) = true) → LiesP w P t b → ¬ P T → TkAt w T p →
    Calls Try.prog 124 #[.pointer (some ⟨b, 0, none⟩), .agg (beA e), .pointer (some ⟨T, 0, none⟩)] w (CanPost w T (canI t e p))
structure MidC (w W : World) (T : Nat) (k a c : UInt8) (s : Value) (e : UInt8 → UInt8) (p : UInt8 → Bool) : Prop where
  hb : But T w W
  env : BeAt W w.heap.size e
  no : Node W (w.heap.size + 1) k a c s
  tk : TkAt W T p
section
variable {w W W' : World} {T : Nat} {k a c : UInt8} {s : Value} {e : UInt8 → UInt8} {p q : UInt8 → Bool}
theorem MidC.start (hT : T < w.heap.size) (htk : TkAt w T p) (k a c : UInt8) (s : Value) (e : UInt8 → UInt8) (x y : TypeId) : MidC w ((w.alloc (.cells (beA e) x)).alloc (.cells #[.int .u8 (vl k), .int .u8 (vl a), .int .u8 (vl c), s] y)) T k a c s e p := by
  have h1 := below_alloc (Below.refl w.heap.size w) (.cells (beA e) x)
  have h2 := below_alloc (Below.refl (w.alloc (.cells (beA e) x)).heap.size (w.alloc (.cells (beA e) x))) (.cells #[.int .u8 (vl k), .int .u8 (vl a), .int .u8 (vl c), s] y)
  have hs : (w.alloc (.cells (beA e) x)).heap.size = w.heap.size + 1 := by simp
  refine ⟨But.of (below_step h1 h2), (be_new w e x).keep (h2.block _ (by omega)), ⟨y, ?_⟩, htk.keep ((h2.block _ (by omega)).trans (h1.block _ hT))⟩
  rw [← hs]
  exact heap_alloc_new (w.alloc (.cells (beA e) x)) _
theorem MidC.step (h : MidC w W T k a c s e p) (hT : T < w.heap.size) (hb : But T W W') (htk : TkAt W' T q) : MidC w W' T k a c s e q :=
  ⟨h.hb.trans hb, h.env.keep (hb.block _ h.env.lt (by omega)), h.no.keep (hb.block _ h.no.lt (by omega)), htk⟩
theorem MidC.below (h : MidC w W T k a c s e p) (hT : T < w.heap.size) (hb : Below W.heap.size W W') : MidC w W' T k a c s e p := h.step hT (But.of hb) (h.tk.keep (hb.block _ h.tk.lt))
theorem MidC.far (h : MidC w W T k a c s e p) (hT : T < w.heap.size) (hb : Below (w.heap.size + 2) W W') : MidC w W' T k a c s e p :=
  ⟨⟨hb.os.trans h.hb.os, hb.tape.trans h.hb.tape, hb.output.trans h.hb.output, Nat.le_trans h.hb.size hb.size, fun i hi hn => (hb.block i (by omega)).trans (h.hb.block i hi hn)⟩, h.env.keep (hb.block _ (by omega)), h.no.keep (hb.block _ (by omega)), h.tk.keep (hb.block _ (by omega))⟩
theorem MidC.setn (h : MidC w W T k a c s e p) (hT : T < w.heap.size) (i : Nat) (v : Value) {k' a' c' : UInt8} {s' : Value} (hset : (#[.int .u8 (vl k), .int .u8 (vl a), .int .u8 (vl c), s] : Array Value).setIfInBounds i v = #[.int .u8 (vl k'), .int .u8 (vl a'), .int .u8 (vl c'), s']) : MidC w (W.setCell ⟨w.heap.size + 1, i, none⟩ v) T k' a' c' s' e p := by
  obtain ⟨hb, henv, ⟨y, hn⟩, htk⟩ := h
  exact ⟨hb.put (.inl (by omega)) _ _, henv.keep (Below.heap_setCell W _ _ _ (by simp)), ⟨y, blk_put hn i _ hset⟩, htk.far (by omega) _ _⟩
theorem MidC.set1 (h : MidC w W T k a c s e p) (hT : T < w.heap.size) (x : UInt8) : MidC w (W.setCell ⟨w.heap.size + 1, 1, none⟩ (.int .u8 (vl x))) T k x c s e p := h.setn hT 1 _ rfl
theorem MidC.set2 (h : MidC w W T k a c s e p) (hT : T < w.heap.size) (x : UInt8) : MidC w (W.setCell ⟨w.heap.size + 1, 2, none⟩ (.int .u8 (vl x))) T k a x s e p := h.setn hT 2 _ rfl
theorem MidC.set3 (h : MidC w W T k a c s e p) (hT : T < w.heap.size) (x : Value) : MidC w (W.setCell ⟨w.heap.size + 1, 3, none⟩ x) T k a c x e p := h.setn hT 3 _ rfl
theorem MidC.put (h : MidC w W T k a c s e p) (hT : T < w.heap.size) {i : Nat} (hi : i < 26) (x : UInt8) : MidC w (W.setCell ⟨w.heap.size, i, none⟩ (.int .u8 (vl x))) T k a c s (eu e (letAt i) x) p :=
  ⟨h.hb.put (.inl (Nat.le_refl _)) _ _, h.env.put hi x, h.no.keep (Below.heap_setCell W _ _ _ (by simp)), h.tk.far (by omega) _ _⟩
theorem MidC.take (h : MidC w W T k a c s e p) (hT : T < w.heap.size) (q : UInt8 → Bool) : MidC w (W.setCell ⟨T, 0, none⟩ (.int .u32 (setI q))) T k a c s e q :=
  ⟨h.hb.put (.inr rfl) _ _, h.env.keep (Below.heap_setCell W _ _ _ (by simp; omega)), h.no.keep (Below.heap_setCell W _ _ _ (by simp; omega)), h.tk.put q⟩
theorem MidC.cells (h : MidC w W T k a c s e p) : W.cell? ⟨w.heap.size + 1, 0, none⟩ = some (.int .u8 (vl k)) ∧ W.cell? ⟨w.heap.size + 1, 1, none⟩ = some (.int .u8 (vl a)) ∧ W.cell? ⟨w.heap.size + 1, 2, none⟩ = some (.int .u8 (vl c)) ∧ W.cell? ⟨w.heap.size + 1, 3, none⟩ = some s ∧ (∀ i, W.frozen? ⟨w.heap.size + 1, i, none⟩ = false) ∧ w.heap.size + 1 < W.heap.size := by
  obtain ⟨e, h⟩ := h.no
  exact ⟨blk_cell h 0, blk_cell h 1, blk_cell h 2, blk_cell h 3, fun i => blk_frozen h i, blk_lt h⟩
theorem MidC.fin {v : Value} {us : List Tm} (h : MidC w W T k a c v e p) (hk : KidsAt W (w.heap.size + 2) (fun j => w.heap.size + 2 ≤ j) v us) (hl : us.length ≤ 2) : Lies W w.heap.size (mkT k a c us) (w.heap.size + 1) := by
  obtain ⟨bs, h1, h2, h4⟩ := hk
  have up : ∀ {u : Tm} {x : Nat}, LiesP W (fun j => w.heap.size + 2 ≤ j ∧ j < W.heap.size ∧ ∀ k, v.ownBlock = some k → j ≠ k) u x → Lies W w.heap.size u x := fun hu => LiesP.from_ge (LiesP.mono (Q := fun j => w.heap.size ≤ j) (fun j hj _ => by omega) hu)
  match us, bs, h1 with
  | [], [], _ =>
    have hn := h.no
    rcases h2.2 with ⟨rfl, _⟩ | ⟨g, cap, cur, rfl, q2, q3, q4, q5, q6, q7⟩
    · exact ⟨by omega, none, 0, hn⟩
    · exact ⟨by omega, _, cap, hn⟩
  | [t], [x], _ =>
    have hn := h.no
    rcases h2.2 with ⟨_, h0⟩ | ⟨g, cap, cur, rfl, q2, q3, q4, q5, q6, q7⟩
    · cases h0
    · have g0 : cur[0]? = some (.pointer (some ⟨x, 0, none⟩)) := by
        rw [← Array.getElem?_toList, ← List.getElem?_take_of_lt (show 0 < 1 * 1 from by omega)]
        exact (congrArg (fun l : List Value => l[0]?) q7)
      exact ⟨by omega, g, cap, x, by omega, hn, ⟨cur, _, q3, g0⟩, up (h4 0 (by simp) (by simp))⟩
  | [t, u], [x, y], _ =>
    have hn := h.no
    rcases h2.2 with ⟨_, h0⟩ | ⟨g, cap, cur, rfl, q2, q3, q4, q5, q6, q7⟩
    · cases h0
    · have g0 : cur[0]? = some (.pointer (some ⟨x, 0, none⟩)) := by
        rw [← Array.getElem?_toList, ← List.getElem?_take_of_lt (show 0 < 2 * 1 from by omega)]
        exact (congrArg (fun l : List Value => l[0]?) q7)
      have g1 : cur[1]? = some (.pointer (some ⟨y, 0, none⟩)) := by
        rw [← Array.getElem?_toList, ← List.getElem?_take_of_lt (show 1 < 2 * 1 from by omega)]
        exact (congrArg (fun l : List Value => l[1]?) q7)
      exact ⟨by omega, g, cap, x, y, by omega, hn, ⟨cur, _, q3, g0⟩, ⟨cur, _, q3, g1⟩, up (h4 0 (by simp) (by simp)), up (h4 1 (by simp) (by simp))⟩
end

end Go.Proofs.Ytfcadppidgkoaaa
