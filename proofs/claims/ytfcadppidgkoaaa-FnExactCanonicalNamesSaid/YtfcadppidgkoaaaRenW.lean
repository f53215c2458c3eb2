/- The walk of rename. -/
import Derived.Test.YtfcadppidgkoaaaRenP
import Derived.Test.YtfcadppidgkoaaaCods
import Derived.Deep.AppendLies
import Derived.Deep.RegionHeld3
import Derived.Deep.LoopGhost
import Derived.Lib.AppendZeros
namespace Go.Proofs.Ytfcadppidgkoaaa
open Go.RowKit Go.Proofs.YtfcadppidgkoaaaW.PrintWords Go.Proofs.YtfcadppidgkoaaaW.PrintMore
set_option linter.unusedVariables false
set_option linter.unusedSimpArgs false

def LiesP (w : World) (P : Nat → Prop) : Tm → Nat → Prop
  | .leaf k a c, b => P b ∧ ∃ o cap, Node w b k a c (.slice o 0 cap)
  | .un k a c t, b => P b ∧ ∃ r cap x, P r ∧ Node w b k a c (.slice (some ⟨r, 0, none⟩) 1 cap) ∧ Kid w r 0 x ∧ LiesP w P t x
  | .bin k a c t u, b => P b ∧ ∃ r cap x y, P r ∧ Node w b k a c (.slice (some ⟨r, 0, none⟩) 2 cap) ∧ Kid w r 0 x ∧ Kid w r 1 y ∧ LiesP w P t x ∧ LiesP w P u y
theorem LiesP.keep {w w' : World} {P : Nat → Prop} (hk : ∀ i, P i → i < w.heap.size → w'.heap[i]? = w.heap[i]?) : ∀ {t : Tm} {b : Nat}, LiesP w P t b → LiesP w' P t b
  | .leaf _ _ _, _, ⟨h0, o, cap, h⟩ => ⟨h0, o, cap, h.keep (hk _ h0 h.lt)⟩
  | .un _ _ _ _, _, ⟨h0, r, cap, x, h1, h, h2, h3⟩ => ⟨h0, r, cap, x, h1, h.keep (hk _ h0 h.lt), h2.keep (hk _ h1 h2.lt), LiesP.keep hk h3⟩
  | .bin _ _ _ _ _, _, ⟨h0, r, cap, x, y, h1, h, h2, h2', h3, h4⟩ => ⟨h0, r, cap, x, y, h1, h.keep (hk _ h0 h.lt), h2.keep (hk _ h1 h2.lt), h2'.keep (hk _ h1 h2.lt), LiesP.keep hk h3, LiesP.keep hk h4⟩
theorem LiesP.mono {w : World} {P Q : Nat → Prop} (hN : ∀ i, P i → i < w.heap.size → Q i) : ∀ {t : Tm} {b : Nat}, LiesP w P t b → LiesP w Q t b
  | .leaf _ _ _, _, ⟨h0, o, cap, h⟩ => ⟨hN _ h0 h.lt, o, cap, h⟩
  | .un _ _ _ _, _, ⟨h0, r, cap, x, h1, h, h2, h3⟩ => ⟨hN _ h0 h.lt, r, cap, x, hN _ h1 h2.lt, h, h2, LiesP.mono hN h3⟩
  | .bin _ _ _ _ _, _, ⟨h0, r, cap, x, y, h1, h, h2, h2', h3, h4⟩ => ⟨hN _ h0 h.lt, r, cap, x, y, hN _ h1 h2.lt, h, h2, h2', LiesP.mono hN h3, LiesP.mono hN h4⟩
theorem LiesP.lies {w : World} {P : Nat → Prop} : ∀ {t : Tm} {b : Nat}, LiesP w P t b → Lies w 0 t b
  | .leaf _ _ _, _, ⟨h0, o, cap, h⟩ => ⟨Nat.zero_le _, o, cap, h⟩
  | .un _ _ _ _, _, ⟨h0, r, cap, x, h1, h, h2, h3⟩ => ⟨Nat.zero_le _, r, cap, x, Nat.zero_le _, h, h2, LiesP.lies h3⟩
  | .bin _ _ _ _ _, _, ⟨h0, r, cap, x, y, h1, h, h2, h2', h3, h4⟩ => ⟨Nat.zero_le _, r, cap, x, y, Nat.zero_le _, h, h2, h2', LiesP.lies h3, LiesP.lies h4⟩
theorem LiesP.of {w : World} {N : Nat} : ∀ {t : Tm} {b : Nat}, Lies w N t b → LiesP w (fun i => N ≤ i ∧ i < w.heap.size) t b
  | .leaf _ _ _, _, ⟨h0, o, cap, h⟩ => ⟨⟨h0, h.lt⟩, o, cap, h⟩
  | .un _ _ _ _, _, ⟨h0, r, cap, x, h1, h, h2, h3⟩ => ⟨⟨h0, h.lt⟩, r, cap, x, ⟨h1, h2.lt⟩, h, h2, LiesP.of h3⟩
  | .bin _ _ _ _ _, _, ⟨h0, r, cap, x, y, h1, h, h2, h2', h3, h4⟩ => ⟨⟨h0, h.lt⟩, r, cap, x, y, ⟨h1, h2.lt⟩, h, h2, h2', LiesP.of h3, LiesP.of h4⟩
theorem LiesP.lt {w : World} {P : Nat → Prop} {t : Tm} {b : Nat} (h : LiesP w P t b) : b < w.heap.size := h.lies.lt
theorem LiesP.at {w : World} {P : Nat → Prop} {t : Tm} {b : Nat} (h : LiesP w P t b) :
    ∃ o cap, w.cell? ⟨b, 0, none⟩ = some (.int .u8 (vl t.kind)) ∧ w.cell? ⟨b, 1, none⟩ = some (.int .u8 (vl t.na)) ∧ w.cell? ⟨b, 2, none⟩ = some (.int .u8 (vl t.nb)) ∧
      w.cell? ⟨b, 3, none⟩ = some (.slice o t.kids.length cap) ∧
      ∀ i, (hi : i < t.kids.length) → ∃ r x, o = some ⟨r, 0, none⟩ ∧ P r ∧ Kid w r i x ∧ LiesP w P t.kids[i] x := by
  cases t with
  | leaf =>
    obtain ⟨_, o, cap, h⟩ := h
    exact ⟨o, cap, h.cells.1, h.cells.2.1, h.cells.2.2.1, h.cells.2.2.2, fun i hi => by simp [Tm.kids] at hi⟩
  | un =>
    obtain ⟨_, r, cap, x, hr, h, h2, h3⟩ := h
    refine ⟨_, cap, h.cells.1, h.cells.2.1, h.cells.2.2.1, h.cells.2.2.2, fun i hi => ?_⟩
    simp [Tm.kids] at hi; subst hi
    exact ⟨r, x, rfl, hr, h2, h3⟩
  | bin =>
    obtain ⟨_, r, cap, x, y, hr, h, h2, h2', h3, h4⟩ := h
    refine ⟨_, cap, h.cells.1, h.cells.2.1, h.cells.2.2.1, h.cells.2.2.2, fun i hi => ?_⟩
    have hi' : i < 2 := hi
    rcases (by omega : i = 0 ∨ i = 1) with rfl | rfl
    · exact ⟨r, x, rfl, hr, h2, h3⟩
    · exact ⟨r, y, rfl, hr, h2', h4⟩

def KidsAt (w : World) (N : Nat) (P : Nat → Prop) (v : Value) (us : List Tm) : Prop :=
  ∃ bs : List Nat, bs.length = us.length ∧ w.ownsRow N 50 1 v bs.length (bs.map fun b => .pointer (some ⟨b, 0, none⟩)) ∧
    ∀ (i : Nat) (h : i < us.length) (h2 : i < bs.length), LiesP w (fun j => P j ∧ j < w.heap.size ∧ ∀ k, v.ownBlock = some k → j ≠ k) us[i] bs[i]
theorem KidsAt.nil (w : World) (N : Nat) (P : Nat → Prop) : KidsAt w N P (.slice none 0 0) [] := ⟨[], rfl, World.ownsRow_nil w N _ 1, fun i hi => absurd hi (Nat.not_lt_zero _)⟩
theorem KidsAt.own {w : World} {N : Nat} {P : Nat → Prop} {v : Value} {us : List Tm} (h : KidsAt w N P v us) {k : Nat} (hk : v.ownBlock = some k) : N ≤ k ∧ k < w.heap.size := by
  obtain ⟨bs, _, ⟨_, h3⟩, _⟩ := h
  rcases h3 with ⟨rfl, _⟩ | ⟨g, cap, cur, rfl, q2, q3, _⟩
  · simp [Value.ownBlock] at hk
  · have : g = k := by simpa [Value.ownBlock] using hk
    subst this
    exact ⟨q2, blk_lt q3⟩
theorem KidsAt.keep {w w' : World} {N : Nat} {P : Nat → Prop} {v : Value} {us : List Tm} (h : KidsAt w N P v us) (hs : w.heap.size ≤ w'.heap.size) (hk : ∀ i, (N ≤ i ∨ P i) → i < w.heap.size → w'.heap[i]? = w.heap[i]?) : KidsAt w' N P v us := by
  obtain ⟨bs, h1, ⟨h2, h3⟩, h4⟩ := h
  refine ⟨bs, h1, ⟨h2, ?_⟩, fun i hi hi2 => ?_⟩
  · rcases h3 with h3 | ⟨g, cap, cur, q1, q2, q3, q4⟩
    · exact .inl h3
    · exact .inr ⟨g, cap, cur, q1, q2, (hk g (.inl q2) (blk_lt q3)).trans q3, q4⟩
  · have := LiesP.keep (w' := w') (fun j hj hj2 => hk j (.inr hj.1) hj2) (h4 i hi hi2)
    exact LiesP.mono (fun j hj hj2 => ⟨hj.1, hj2, hj.2.2⟩) this
theorem KidsAt.slice {w : World} {N : Nat} {P : Nat → Prop} {v : Value} {us : List Tm} (h : KidsAt w N P v us) : ∃ o l cap, v = .slice o l cap := by
  obtain ⟨bs, _, ⟨_, h3⟩, _⟩ := h
  rcases h3 with ⟨rfl, _⟩ | ⟨g, cap, cur, rfl, _⟩
  · exact ⟨_, _, _, rfl⟩
  · exact ⟨_, _, _, rfl⟩
theorem KidsAt.lower {w : World} {N N' : Nat} {P : Nat → Prop} {v : Value} {us : List Tm} (h : KidsAt w N P v us) (hN : N' ≤ N) : KidsAt w N' P v us := by
  obtain ⟨bs, h1, ⟨h2, h3⟩, h4⟩ := h
  refine ⟨bs, h1, ⟨h2, ?_⟩, h4⟩
  rcases h3 with h3 | ⟨g, cap, cur, q1, q2, q3⟩
  · exact .inl h3
  · exact .inr ⟨g, cap, cur, q1, by omega, q3⟩
theorem Try.infoTermR : (Try.prog.info? 50).map (fun i => (i.zero.map (fun z => z.cells.size), i.size, i.bytes)) = some (some 1, 1, 8) := by kernel_rfl
theorem run_append_kid {w : World} {N : Nat} {P : Nat → Prop} {ty : TypeId} {v : Value} {us : List Tm} (h : KidsAt w N P v us) (hN : N ≤ w.heap.size) (hl : us.length ≤ 1000) {g b : Nat} {t : Tm} (hg : w.heap[g]? = some (.cells #[.pointer (some ⟨b, 0, none⟩)] 50 (0, 0)))
    (ht : LiesP w (fun j => P j ∧ j < w.heap.size ∧ ∀ k, v.ownBlock = some k → j ≠ k) t b) :
    ∃ v' w', (Builtin.append_ #[58, 58] ty #[v, .slice (some ⟨g, 0, none⟩) 1 1]).run Try.prog w = .ok v' w' ∧ KidsAt w' N P v' (us ++ [t]) ∧ w.grownBy w' v.ownBlock := by
  have hi0 := Try.infoTermR
  cases hinf : Try.prog.info? 50 with
  | none => rw [hinf] at hi0; cases hi0
  | some i =>
    rw [hinf] at hi0
    simp only [Option.map_some, Option.some.injEq, Prod.mk.injEq, Option.map_eq_some_iff] at hi0
    obtain ⟨⟨z, hz, hz2⟩, hs, hb⟩ := hi0
    have hT : Try.prog.underlying 58 = some (.slice 50) := Try.underlying58
    obtain ⟨bs, h1, h2, h4⟩ := h
    obtain ⟨v', w', e1, e2, e3, _, e5⟩ := run_append_own_at (P := Try.prog) w N 58 ty 50 i z 1 8 hT hinf hz hs hb hz2 (by omega) v bs.length _ h2 ⟨g, 0, none⟩ 1 1 [.pointer (some ⟨b, 0, none⟩)] rfl (World.news_of_block hg) (by simp [Value.oneCell']) (by unfold maxLen; omega) (by omega) hN
    have far : ∀ (u : Tm) (x : Nat), LiesP w (fun j => P j ∧ j < w.heap.size ∧ ∀ k, v.ownBlock = some k → j ≠ k) u x → LiesP w' (fun j => P j ∧ j < w'.heap.size ∧ ∀ k, v'.ownBlock = some k → j ≠ k) u x := fun u x hu => by
      have h5 := LiesP.keep (w' := w') (fun j hj hj2 => e3.block j hj2 fun e => hj.2.2 j e.symm rfl) hu
      refine LiesP.mono (fun j hj _ => ⟨hj.1, Nat.lt_of_lt_of_le hj.2.1 e3.size, fun k hk e => ?_⟩) h5
      rcases e5 with e5 | e5
      · exact hj.2.2 k (e5 ▸ hk) e
      · rw [e5] at hk
        injection hk with hk
        have := hj.2.1
        omega
    refine ⟨v', w', e1, ⟨bs ++ [b], by simp [h1], ?_, fun j hj hj2 => ?_⟩, e3⟩
    · rw [List.length_append, List.map_append]; exact e2
    · by_cases hjl : j < us.length
      · have c' := far _ _ (h4 j hjl (by omega))
        rw [List.getElem_append_left hjl, List.getElem_append_left (by omega)]
        exact c'
      · have hje : j = us.length := by simp at hj; omega
        subst hje
        have c' := far _ _ ht
        rw [List.getElem_append_right (Nat.le_refl _), List.getElem_append_right (by omega)]
        simp only [h1, Nat.sub_self, List.getElem_cons_zero]
        exact c'

structure MidN (w W : World) (k a c : UInt8) (s : Value) : Prop where
  hb : Below w.heap.size w W
  no : Node W w.heap.size k a c s
def Okb (w : World) (P : Nat → Prop) (j : Nat) : Prop := (P j ∧ j < w.heap.size) ∨ w.heap.size < j
section
variable {w W W' : World} {k a c : UInt8} {s : Value} {P : Nat → Prop}
theorem MidN.below (h : MidN w W k a c s) (hb : Below W.heap.size W W') : MidN w W' k a c s := ⟨below_then h.hb h.hb.size hb, h.no.keep (hb.block _ h.no.lt)⟩
theorem MidN.far (h : MidN w W k a c s) (hb : Below (w.heap.size + 1) W W') : MidN w W' k a c s := by
  obtain ⟨h1, h2⟩ := h
  exact ⟨⟨hb.os.trans h1.os, hb.tape.trans h1.tape, hb.output.trans h1.output, Nat.le_trans h1.size hb.size, fun i hi => (hb.block i (by omega)).trans (h1.block i hi)⟩, h2.keep (hb.block _ (Nat.lt_succ_self _))⟩
theorem MidN.set0 (h : MidN w W k a c s) (x : UInt8) : MidN w (W.setCell ⟨w.heap.size, 0, none⟩ (.int .u8 (vl x))) x a c s := by
  obtain ⟨hb, e, hn⟩ := h; exact ⟨below_set hb (Nat.le_refl _), e, blk_set hn 0 _⟩
theorem MidN.set1 (h : MidN w W k a c s) (x : UInt8) : MidN w (W.setCell ⟨w.heap.size, 1, none⟩ (.int .u8 (vl x))) k x c s := by
  obtain ⟨hb, e, hn⟩ := h; exact ⟨below_set hb (Nat.le_refl _), e, blk_set hn 1 _⟩
theorem MidN.set2 (h : MidN w W k a c s) (x : UInt8) : MidN w (W.setCell ⟨w.heap.size, 2, none⟩ (.int .u8 (vl x))) k a x s := by
  obtain ⟨hb, e, hn⟩ := h; exact ⟨below_set hb (Nat.le_refl _), e, blk_set hn 2 _⟩
theorem MidN.set3 (h : MidN w W k a c s) (x : Value) : MidN w (W.setCell ⟨w.heap.size, 3, none⟩ x) k a c x := by
  obtain ⟨hb, e, hn⟩ := h; exact ⟨below_set hb (Nat.le_refl _), e, blk_set hn 3 _⟩
theorem MidN.cells (h : MidN w W k a c s) : W.cell? ⟨w.heap.size, 0, none⟩ = some (.int .u8 (vl k)) ∧ W.cell? ⟨w.heap.size, 1, none⟩ = some (.int .u8 (vl a)) ∧ W.cell? ⟨w.heap.size, 2, none⟩ = some (.int .u8 (vl c)) ∧ W.cell? ⟨w.heap.size, 3, none⟩ = some s ∧ (∀ i, W.frozen? ⟨w.heap.size, i, none⟩ = false) ∧ w.heap.size < W.heap.size := by
  obtain ⟨e, h⟩ := h.no
  exact ⟨blk_cell h 0, blk_cell h 1, blk_cell h 2, blk_cell h 3, fun i => blk_frozen h i, blk_lt h⟩
end
def mkT (k a c : UInt8) : List Tm → Tm
  | [] => .leaf k a c
  | [t] => .un k a c t
  | t :: u :: _ => .bin k a c t u
theorem MidN.fin {w W : World} {k a c : UInt8} {v : Value} {P : Nat → Prop} {us : List Tm} (h : MidN w W k a c v) (hk : KidsAt W (w.heap.size + 1) (Okb w P) v us) (hl : us.length ≤ 2) : LiesP W (fun j => P j ∨ w.heap.size ≤ j) (mkT k a c us) w.heap.size := by
  obtain ⟨bs, h1, h2, h4⟩ := hk
  have up : ∀ {u : Tm} {x : Nat}, LiesP W (fun j => Okb w P j ∧ j < W.heap.size ∧ ∀ k, v.ownBlock = some k → j ≠ k) u x → LiesP W (fun j => P j ∨ w.heap.size ≤ j) u x := fun hu => LiesP.mono (fun j hj _ => by
    rcases hj.1 with h | h
    · exact .inl h.1
    · exact .inr (Nat.le_of_lt h)) hu
  match us, bs, h1 with
  | [], [], _ =>
    have hn := h.no
    rcases h2.2 with ⟨rfl, _⟩ | ⟨g, cap, cur, rfl, q2, q3, q4, q5, q6, q7⟩
    · exact ⟨.inr (Nat.le_refl _), none, 0, hn⟩
    · exact ⟨.inr (Nat.le_refl _), _, cap, hn⟩
  | [t], [x], _ =>
    have hn := h.no
    rcases h2.2 with ⟨_, h0⟩ | ⟨g, cap, cur, rfl, q2, q3, q4, q5, q6, q7⟩
    · cases h0
    · have g0 : cur[0]? = some (.pointer (some ⟨x, 0, none⟩)) := by
        rw [← Array.getElem?_toList, ← List.getElem?_take_of_lt (show 0 < 1 * 1 from by omega)]
        exact (congrArg (fun l : List Value => l[0]?) q7)
      exact ⟨.inr (Nat.le_refl _), g, cap, x, .inr (by omega), hn, ⟨cur, _, q3, g0⟩, up (h4 0 (by simp) (by simp))⟩
  | [t, u], [x, y], _ =>
    have hn := h.no
    rcases h2.2 with ⟨_, h0⟩ | ⟨g, cap, cur, rfl, q2, q3, q4, q5, q6, q7⟩
    · cases h0
    · have g0 : cur[0]? = some (.pointer (some ⟨x, 0, none⟩)) := by
        rw [← Array.getElem?_toList, ← List.getElem?_take_of_lt (show 0 < 2 * 1 from by omega)]
        exact (congrArg (fun l : List Value => l[0]?) q7)
      have g1 : cur[1]? = some (.pointer (some ⟨y, 0, none⟩)) := by
        rw [← Array.getElem?_toList, ← List.getElem?_take_of_lt (show 1 < 2 * 1 from by omega)]
        exact (congrArg (fun l : List Value => l[1]?) q7)
      exact ⟨.inr (Nat.le_refl _), g, cap, x, y, .inr (by omega), hn, ⟨cur, _, q3, g0⟩, ⟨cur, _, q3, g1⟩, up (h4 0 (by simp) (by simp)), up (h4 1 (by simp) (by simp))⟩

theorem swap_calls (c old name : UInt8) (w : World) : Calls Try.prog 122 #[.int .u8 (vl c), .int .u8 (vl old), .int .u8 (vl name)] w fun e w' => e = .returned (.int .u8 (vl (swp c old name))) ∧ w = w' := by
  by_cases h : c = old
  · have e1 : (vl c == vl old) = true := by rw [h]; simp
    have HV : Hid (swp c old name = name) := by simp [Hid, swp, h]
    clear h
    go_enter Try.func122, Try.ntmps122
    go_wp2_with fail
    go_ret
    exact ⟨by rw [HV.out]; rfl, rfl⟩
  · have e1 : (vl c == vl old) = false := by rw [beq_eq_false_iff_ne]; exact fun e => h (vl_inj.mp e)
    have HV : Hid (swp c old name = c) := by simp [Hid, swp, h]
    clear h
    go_enter Try.func122, Try.ntmps122
    go_wp2_with fail
    go_ret
    exact ⟨by rw [HV.out]; rfl, rfl⟩

def RenPost (w : World) (P : Nat → Prop) (o : Option Tm) (e : Ending) (w' : World) : Prop :=
  Below w.heap.size w w' ∧ match o with
    | some u => ∃ x, e = .returned (.tuple #[.pointer (some ⟨x, 0, none⟩), .bool true]) ∧ LiesP w' (fun j => P j ∨ w.heap.size ≤ j) u x
    | none => ∃ p, e = .returned (.tuple #[.pointer p, .bool false])
def RenUpto (n : Nat) : Prop := ∀ (t : Tm) (old name : UInt8) (w : World) (P : Nat → Prop) (b : Nat), t.size ≤ n → Wf isLet t → isLet old = true → isLet name = true → LiesP w P t b →
    Calls Try.prog 87 #[.pointer (some ⟨b, 0, none⟩), .int .u8 (vl old), .int .u8 (vl name)] w (RenPost w P (renI n t old name))
def renL (n : Nat) (old name : UInt8) : List Tm → Option (List Tm)
  | [] => some []
  | t :: ts => (renI n t old name).bind fun u => (renL n old name ts).map (u :: ·)
theorem renL_app (n : Nat) (old name : UInt8) (A B : List Tm) : renL n old name (A ++ B) = (renL n old name A).bind fun us => (renL n old name B).map (us ++ ·) := by
  induction A with
  | nil => simp only [List.nil_append, renL, Option.bind_some]; cases renL n old name B <;> simp
  | cons t A ih =>
    simp only [List.cons_append, renL, ih]
    cases renI n t old name <;> simp
    cases renL n old name A <;> simp
    cases renL n old name B <;> simp
theorem renL_step {n : Nat} {old name : UInt8} {KL us : List Tm} {j : Nat} (hj : j < KL.length) (h : renL n old name (KL.take j) = some us) : renL n old name (KL.take (j + 1)) = (renI n KL[j] old name).map fun u => us ++ [u] := by
  rw [List.take_succ_eq_append_getElem hj, renL_app, h, Option.bind_some]
  simp only [renL]
  cases renI n KL[j] old name <;> simp
theorem renL_none {n : Nat} {old name : UInt8} {KL : List Tm} {j : Nat} (h : renL n old name (KL.take j) = none) : renL n old name KL = none := by
  rw [← List.take_append_drop j KL, renL_app, h]; rfl
theorem okb_lt {w : World} {P : Nat → Prop} {j : Nat} (h : Okb w P j) : j ≠ w.heap.size := by
  rcases h with h | h <;> omega


theorem not_free {t : Tm} {old : UInt8} (ho : isLet old = true) (h : t.fr old = false) : (Go.bits .and .u32 (setI t.fr) (setI (eqS old)) == 0) = true := by rw [beq_iff_eq]; exact (set_test _ ho).mpr h
theorem is_free {t : Tm} {old : UInt8} (ho : isLet old = true) (h : t.fr old = true) : (Go.bits .and .u32 (setI t.fr) (setI (eqS old)) == 0) = false := by
  rw [beq_eq_false_iff_ne]; intro e; rw [(set_test _ ho).mp e] at h; cases h
set_option maxHeartbeats 1000000 in
set_option maxRecDepth 100000 in
theorem ren_early (t : Tm) (old name : UInt8) (w : World) (P : Nat → Prop) (b : Nat) (hs : t.size ≤ 100) (hw : Wf isLet t) (ho : isLet old = true) (hn : isLet name = true) (hl : LiesP w P t b) (h : old = name ∨ t.fr old = false) :
    Calls Try.prog 87 #[.pointer (some ⟨b, 0, none⟩), .int .u8 (vl old), .int .u8 (vl name)] w (RenPost w P (some t)) := by
  have HL := Lib.hid hl
  have HFC := Lib.hid (free_any 100 t w 0 b (by omega) (by omega) hw hl.lies)
  clear hl hw
  by_cases h1 : old = name
  · have e1 : (vl old == vl name) = true := by rw [h1]; simp
    clear h h1 ho hn
    go_enter Try.func87, Try.ntmps87
    go_wp2_with fail
    go_ret2
    exact ⟨Below.refl _ _, b, rfl, LiesP.mono (fun _ hi _ => .inl hi) HL.out⟩
  · have e1 : (vl old == vl name) = false := by rw [beq_eq_false_iff_ne]; exact fun e => h1 (vl_inj.mp e)
    have e2 := not_free ho (h.resolve_left h1)
    have hb := fun W => bit_calls ho W
    have HB := Lib.hid hb
    clear h h1 hb ho hn
    go_enter Try.func87, Try.ntmps87
    go_wp2_with fail
    refine HFC.out.mono ?_
    rintro e w' ⟨rfl, m, rfl⟩
    go_wp2_with fail
    refine (HB.out _).mono ?_
    rintro e w' ⟨rfl, rfl⟩
    go_wp2_with fail
    go_ret2
    exact ⟨pw_below_drewN (Below.refl _ _) _, b, rfl, LiesP.mono (fun _ hi _ => .inl hi) (LiesP.keep (w := w) (w' := w.drewN _) (fun _ _ _ => rfl) HL.out)⟩

theorem MidN.start (w : World) (m : Nat) (k a c : UInt8) (e : TypeId) : MidN w ((w.drewN m).alloc (.cells #[.int .u8 (vl k), .int .u8 (vl a), .int .u8 (vl c), .slice none 0 0] e)) k a c (.slice none 0 0) :=
  ⟨below_alloc (pw_below_drewN (Below.refl _ _) m) _, e, heap_alloc_new (w.drewN m) _⟩
theorem kids_at {w Wk : World} {P : Nat → Prop} {ts : List Tm} {o : Option Addr} (hb : Below w.heap.size w Wk) (h : ∀ i, (hi : i < ts.length) → ∃ r x, o = some ⟨r, 0, none⟩ ∧ P r ∧ Kid w r i x ∧ LiesP w P ts[i] x) :
    ∀ i, (hi : i < ts.length) → ∃ r x, o = some ⟨r, 0, none⟩ ∧ r ≠ w.heap.size ∧ Wk.cell? ⟨r, i, none⟩ = some (.pointer (some ⟨x, 0, none⟩)) ∧ LiesP Wk (fun j => Okb w P j ∧ j < Wk.heap.size) ts[i] x := fun i hi => by
  obtain ⟨r, x, e, hr, hk, hl⟩ := h i hi
  have hrl := hk.lt
  refine ⟨r, x, e, by omega, (hk.keep (hb.block r hrl)).cell, ?_⟩
  have h1 := LiesP.mono (Q := fun j => P j ∧ j < w.heap.size) (fun j hj hj2 => ⟨hj, hj2⟩) hl
  have h2 := LiesP.keep (w' := Wk) (fun j _ hj2 => hb.block j hj2) h1
  exact LiesP.mono (fun j hj hj2 => ⟨.inl hj, hj2⟩) h2
theorem MidN.share {w W : World} {k a c : UInt8} {r cap x : Nat} {t : Tm} {P : Nat → Prop} (h : MidN w W k a c (.slice (some ⟨r, 0, none⟩) 1 cap)) (hr : P r) (hk : Kid w r 0 x) (hl : LiesP w P t x) : LiesP W (fun j => P j ∨ w.heap.size ≤ j) (.un k a c t) w.heap.size :=
  ⟨.inr (Nat.le_refl _), r, cap, x, .inl hr, h.no, hk.keep (h.hb.block r hk.lt), LiesP.mono (fun j hj _ => .inl hj) (LiesP.keep (fun j _ hj2 => h.hb.block j hj2) hl)⟩
set_option maxHeartbeats 20000000 in
set_option maxRecDepth 100000 in
theorem ren_other (n : Nat) (ih : RenUpto n) (hn100 : n ≤ 99) (T : Tm) (old name : UInt8) (w : World) (P : Nat → Prop) (b : Nat) (hTs : T.size ≤ n + 1) (hw : Wf isLet T) (hsz0 : ∀ u, u ∈ T.kids → u.size ≤ n ∧ Wf isLet u) (hkl0 : T.kids.length ≤ 2) (ho : isLet old = true) (hn : isLet name = true) (hl : LiesP w P T b)
    (h1 : old ≠ name) (hf : T.fr old = true) (q1 : (vl T.kind == 33) = false) (q2 : (vl T.kind == 61) = false) (q3 : (vl T.kind == 63) = false) (q4 : (vl T.kind == 35) = false) (res : Option Tm) (hres : res = (renL n old name T.kids).map (mkT T.kind T.na T.nb)) :
    Calls Try.prog 87 #[.pointer (some ⟨b, 0, none⟩), .int .u8 (vl old), .int .u8 (vl name)] w (RenPost w P res) := by
  have hsz : T.size ≤ 100 := by omega
  obtain ⟨o, cap, c0, c1, c2, c3, hk⟩ := hl.at
  have HK := Lib.hid hk
  have HSZ := Lib.hid hsz0
  have HL := Lib.hid hl
  have HFC := Lib.hid (free_any 100 _ w 0 b (by omega) (by omega) hw hl.lies)
  have e1 : (vl old == vl name) = false := by rw [beq_eq_false_iff_ne]; exact fun e => h1 (vl_inj.mp e)
  have e2 := is_free ho hf
  have HB := Lib.hid (fun W => bit_calls ho W)
  have hbl := hl.lt
  have HLO : Hid (isLet old = true ∧ isLet name = true) := ⟨ho, hn⟩
  obtain ⟨k, hkk⟩ : ∃ k, T.kind = k := ⟨_, rfl⟩
  obtain ⟨a, haa⟩ : ∃ k, T.na = k := ⟨_, rfl⟩
  obtain ⟨c, hcc⟩ : ∃ k, T.nb = k := ⟨_, rfl⟩
  rw [hkk] at c0 q1 q2 q3 q4 hres
  rw [haa] at c1 hres
  rw [hcc] at c2 hres
  have HRES := Lib.hid hres
  clear hk hl hw h1 hf hres ho hn hkk haa hcc hsz0 hTs
  replace c0 : w.cell? ⟨b, 0, none⟩ = some (.int .u8 (vl k)) := c0
  replace c1 : w.cell? ⟨b, 1, none⟩ = some (.int .u8 (vl a)) := c1
  replace c2 : w.cell? ⟨b, 2, none⟩ = some (.int .u8 (vl c)) := c2
  go_enter Try.func87, Try.ntmps87
  go_wp2_with fail
  refine HFC.out.mono ?_
  rintro e w' ⟨rfl, m, rfl⟩
  go_wp2_with fail
  refine (HB.out _).mono ?_
  rintro e w' ⟨rfl, rfl⟩
  go_wp2_with fail
  go_region_held3 (fun w' => w'.cell? ⟨b, 0, none⟩ = some (.int .u8 (vl k)) ∧ w'.cell? ⟨b, 1, none⟩ = some (.int .u8 (vl a)) ∧ w'.cell? ⟨b, 2, none⟩ = some (.int .u8 (vl c))) (first | exact ⟨c0, c1, c2⟩ | exact ⟨(World.cell?_of_block (Below.heap_alloc _ _ _ hbl)).trans c0, (World.cell?_of_block (Below.heap_alloc _ _ _ hbl)).trans c1, (World.cell?_of_block (Below.heap_alloc _ _ _ hbl)).trans c2⟩ | go_keep) (fail)
  have M1 := MidN.start w (m + 1) k a c 60
  have HMK0 := Lib.hid M1
  have d0 := (M1.hb.cell hbl).trans c0
  have d1 := (M1.hb.cell hbl).trans c1
  have d2 := (M1.hb.cell hbl).trans c2
  have d3 := (M1.hb.cell hbl).trans c3
  obtain ⟨q0, q1', q2', q3', qf, ql⟩ := M1.cells
  obtain ⟨W1, hW1⟩ : ∃ W1, (w.drewN (m + 1)).alloc (.cells #[.int .u8 (vl k), .int .u8 (vl a), .int .u8 (vl c), .slice none 0 0] 60) = W1 := ⟨_, rfl⟩
  rw [hW1] at HMK0 d0 d1 d2 d3 q0 q1' q2' q3' qf ql ⊢
  have hbl1 : b < W1.heap.size := by omega
  clear hW1 M1 c0 c1 c2 c3 e1 e2 HFC HB
  obtain ⟨Wk, hWk⟩ : ∃ Wk, Wk = W1 := ⟨_, rfl⟩
  have HMK : Hid (MidN w Wk k a c (.slice none 0 0)) := by rw [hWk]; exact HMK0.out
  have HKL0 := kids_at (Wk := Wk) HMK.out.hb HK.out
  obtain ⟨KL, hKL⟩ : ∃ KL, T.kids = KL := ⟨_, rfl⟩
  rw [hKL] at d3 HKL0 HSZ HRES hkl0
  have hkl : KL.length ≤ 2 := hkl0
  have HWK : Hid (w.heap.size + 1 ≤ Wk.heap.size) := by rw [hWk]; exact ql
  have HKL := Lib.hid HKL0
  have HLEN : Hid (KL.length = KL.length) := rfl
  rw [← hWk] at d0 d1 d2 d3 q0 q1' q2' q3' qf ql hbl1 ⊢
  clear hKL HKL0 hWk HK HMK0 HL
  try go_wp2_with fail
  go_loopw [154] (fun i wr => ∃ j : Nat, j ≤ KL.length ∧ i = .int .i64 j ∧ ∃ us v, us.length = j ∧ Hid (renL n old name (KL.take j) = some us) ∧ Hid (MidN w wr k a c v) ∧ Hid (KidsAt wr Wk.heap.size (Okb w P) v us) ∧ Hid (∀ k, v.ownBlock = some k → Wk.heap.size ≤ k) ∧ Hid (Wk.heap.size ≤ wr.heap.size ∧ ∀ i, i < Wk.heap.size → i ≠ w.heap.size → wr.heap[i]? = Wk.heap[i]?)) (fun i _ => KL.length - (intOf i).toNat)
  case atStart => exact ⟨0, Nat.zero_le _, rfl, [], _, rfl, rfl, HMK.out, KidsAt.nil _ _ _, fun k hk => by simp [Value.ownBlock] at hk, Nat.le_refl _, fun _ _ _ => rfl⟩
  case round =>
    obtain ⟨j, hj, rfl, us, v, husl, hren, hmid, hkids, hown, hag⟩ := hrel
    by_cases hlt0 : j < KL.length
    · have hlt : j < KL.length := by have := HLEN.out; omega
      obtain ⟨r, x, hro, hrb, hrk, hlx⟩ := HKL.out j hlt
      cases hro
      have hrl := World.block_lt_of_cell? Wk _ hrk
      have e0 := (show wr.cell? ⟨_, j, none⟩ = _ from World.cell?_of_block (hag.out.2 _ hrl hrb)).trans hrk
      have HLX : Hid (LiesP wr (fun i => Okb w P i ∧ i < wr.heap.size ∧ ∀ k, v.ownBlock = some k → i ≠ k) KL[j] x) :=
        LiesP.mono (fun i hi hi2 => ⟨hi.1, hi2, fun k hk e => by have := hown.out k hk; have := hi.2; omega⟩) (LiesP.keep (w' := wr) (fun i hi hi2 => hag.out.2 i hi2 (okb_lt hi.1)) hlx)
      have HST : Hid (renL n old name (KL.take (j + 1)) = (renI n KL[j] old name).map fun u => us ++ [u]) := renL_step hlt hren.out
      have HS2 : Hid (KL[j].size ≤ n ∧ Wf isLet KL[j]) := HSZ.out _ (List.getElem_mem hlt)
      clear hrb hrk hlx hrl
      go_wp2_with fail
      refine (ih KL[j] old name wr _ x HS2.out.1 HS2.out.2 HLO.out.1 HLO.out.2 HLX.out).mono ?_
      rintro e w2 ⟨hb2, hpost⟩
      rcases hr : renI n KL[j] old name with _ | u
      · rw [hr] at hpost
        obtain ⟨p, rfl⟩ := hpost
        have HN : Hid (res = none) := by
          have h1 : renL n old name (KL.take (j + 1)) = none := by rw [HST.out, hr]; rfl
          rw [Hid, HRES.out, renL_none h1]; rfl
        have HB := Lib.hid (hmid.out.below hb2)
        clear hr hb2 e0
        go_wp2_with fail
        go_ret2
        rw [HN.out]
        exact ⟨HB.out.hb, _, rfl⟩
      · rw [hr] at hpost
        obtain ⟨x2, rfl, hlu⟩ := hpost
        have HR2 : Hid (renL n old name (KL.take (j + 1)) = some (us ++ [u])) := by rw [Hid, HST.out, hr]; rfl
        have hm2 := hmid.out.below hb2
        have hb3 : Below w2.heap.size w2 (w2.alloc (.cells #[.pointer (some ⟨x2, 0, none⟩)] 50)) := below_alloc (Below.refl _ _) _
        have hm3 := hm2.below hb3
        have hk3 : KidsAt (w2.alloc (.cells #[.pointer (some ⟨x2, 0, none⟩)] 50)) Wk.heap.size (Okb w P) v us := (hkids.out.keep hb2.size fun i _ hi => hb2.block i hi).keep hb3.size fun i _ hi => hb3.block i hi
        have hs2 := hb2.size
        have hs3 := hb3.size
        have hsk := hag.out.1
        have hwk := HWK.out
        have hu3 : LiesP (w2.alloc (.cells #[.pointer (some ⟨x2, 0, none⟩)] 50)) (fun i => Okb w P i ∧ i < (w2.alloc (.cells #[.pointer (some ⟨x2, 0, none⟩)] 50)).heap.size ∧ ∀ k, v.ownBlock = some k → i ≠ k) u x2 := by
          refine LiesP.mono (fun i hi hi2 => ?_) (LiesP.keep (fun i _ hi => hb3.block i hi) hlu)
          rcases hi with hi | hi
          · exact ⟨hi.1, hi2, hi.2.2⟩
          · exact ⟨.inr (by omega), hi2, fun k hk e => by have := (hkids.out.own hk).2; omega⟩
        obtain ⟨v4, w4, e1, e2, e3⟩ := run_append_kid (ty := 58) hk3 (by omega) (by omega) (heap_alloc_new w2 _) hu3
        obtain ⟨o4, l4, cap4, rfl⟩ := e2.slice
        have hown3 : ∀ k, v.ownBlock = some k → w.heap.size < k := fun k hk => by have := hown.out k hk; omega
        have hgb : Below (w.heap.size + 1) (w2.alloc (.cells #[.pointer (some ⟨x2, 0, none⟩)] 50)) w4 := ⟨e3.os, e3.tape, e3.output, e3.size, fun i hi => e3.block i (by omega) fun e => by have := hown3 i e.symm; omega⟩
        have hm4 := hm3.far hgb
        have HM5 := Lib.hid (hm4.set3 (.slice o4 l4 cap4))
        have hk5 := Lib.hid (e2.keep (w' := w4.setCell ⟨w.heap.size, 3, none⟩ (.slice o4 l4 cap4)) (by simp [World.setCell]) fun i hi _ => Below.heap_setCell _ _ _ _ (by
          rcases hi with hi | hi
          · simp; omega
          · simpa using okb_lt hi))
        have HOW : Hid (∀ k, (Value.slice o4 l4 cap4).ownBlock = some k → Wk.heap.size ≤ k) := fun k hk => (e2.own hk).1
        have HAG : Hid (Wk.heap.size ≤ (w4.setCell ⟨w.heap.size, 3, none⟩ (.slice o4 l4 cap4)).heap.size ∧ ∀ i, i < Wk.heap.size → i ≠ w.heap.size → (w4.setCell ⟨w.heap.size, 3, none⟩ (.slice o4 l4 cap4)).heap[i]? = Wk.heap[i]?) := by
          refine ⟨by have := e3.size; simp [World.setCell]; omega, fun i hi hne => ?_⟩
          refine (Below.heap_setCell _ _ _ _ (by simpa using hne)).trans ((e3.block i (by omega) fun e => by have := hown.out i e.symm; omega).trans ((hb3.block i (by omega)).trans ((hb2.block i (by omega)).trans (hag.out.2 i hi hne))))
        have HE1 := Lib.hid e1
        obtain ⟨q0, q1, q2, q3, qf, ql⟩ := hm2.cells
        obtain ⟨p0, p1, p2, p3, pf, pl⟩ := hm4.cells
        clear hr hb2 hb3 hm2 hm3 hk3 hs2 hs3 hsk hwk hu3 hlu e1 e2 e3 hown3 hgb hm4 e0
        go_wp2_with (at_builtin; refine Lib.wpList_append_run _ rfl (.tmp 171) (.tmp 173) _ _ rfl _ _ rfl rfl _ w4 HE1.out ?_)
        go_roundw
        case rel => exact ⟨j + 1, by omega, by go_num, us ++ [u], _, by simp [husl], HR2.out, HM5.out, hk5.out, HOW.out, HAG.out⟩
        case measure => simp [intOf]; omega
    · have HFI : Hid (res = some (mkT k a c us) ∧ LiesP wr (fun j => P j ∨ w.heap.size ≤ j) (mkT k a c us) w.heap.size ∧ Below w.heap.size w wr) := by
        have hke : j = KL.length := by have := HLEN.out; omega
        have h1 := hren.out
        rw [hke, List.take_length] at h1
        refine ⟨by rw [HRES.out, h1]; rfl, hmid.out.fin (hkids.out.lower HWK.out) (by omega), hmid.out.hb⟩
      go_wp2_with fail
      go_ret2
      rw [HFI.out.1]
      exact ⟨HFI.out.2.2, _, rfl, HFI.out.2.1⟩

theorem kid_one {w Wk : World} {P : Nat → Prop} {t : Tm} {r x : Nat} (hb : Below w.heap.size w Wk) (hr : P r) (hk : Kid w r 0 x) (hl : LiesP w P t x) :
    ∀ i, (hi : i < [t].length) → ∃ r' x', some (Addr.mk r 0 none) = some ⟨r', 0, none⟩ ∧ r' ≠ w.heap.size ∧ Wk.cell? ⟨r', i, none⟩ = some (.pointer (some ⟨x', 0, none⟩)) ∧ LiesP Wk (fun j => Okb w P j ∧ j < Wk.heap.size) [t][i] x' :=
  kids_at hb fun i hi => by
    have : i = 0 := by simpa using hi
    subst this
    exact ⟨r, x, rfl, hr, hk, hl⟩
theorem ren_wf (n : Nat) : ∀ (t : Tm) (old name : UInt8), isLet name = true → Wf isLet t → ∀ u, renI n t old name = some u → u.size = t.size ∧ Wf isLet u := by
  have hsw : ∀ (c old name : UInt8), isLet name = true → isLet c = true → isLet (swp c old name) = true := fun c old name hn hc => by unfold swp; split <;> assumption
  induction n with
  | zero => intro t old name hn hw u h; simp only [renI, Option.some.injEq] at h; subst h; exact ⟨rfl, hw⟩
  | succ n ih =>
    intro t old name hn hw u h
    simp only [renI] at h
    split at h
    · simp only [Option.some.injEq] at h; subst h; exact ⟨rfl, hw⟩
    cases t with
    | leaf k a b => simp only [Option.some.injEq] at h; subst h; exact ⟨rfl, hw⟩
    | un k a b t =>
      obtain ⟨hw1, hw2⟩ := hw
      simp only at h
      split at h
      · rename_i hk
        obtain ⟨v, hv, rfl⟩ := Option.map_eq_some_iff.mp h
        obtain ⟨r1, r2⟩ := ih t old name hn hw2 v hv
        refine ⟨by simp only [Tm.size, r1], ?_, r2⟩
        rcases hw1 with ⟨h1, h2, h3⟩ | ⟨h1, h2, h3⟩ | ⟨h1, h2, h3⟩
        · exact .inl ⟨h1, hsw _ _ _ hn h2, hsw _ _ _ hn h3⟩
        · subst h1; exact absurd hk (by decide)
        · rcases h1 with rfl | rfl <;> exact absurd hk (by decide)
      split at h
      · rename_i hk1 hk
        have hk' : (k = 63 ∧ isLet a = true ∧ isLet b = true) ∨ (k = 35 ∧ a = 0 ∧ isLet b = true) := by
          rcases hw1 with ⟨h1, h2, h3⟩ | ⟨h1, h2, h3⟩ | ⟨h1, h2, h3⟩
          · rcases hk with hk | hk
            · exact .inl ⟨hk, h2, h3⟩
            · subst hk; exact absurd h1 (by decide)
          · exact .inr ⟨h1, h2, h3⟩
          · rcases h1 with rfl | rfl <;> exact absurd hk (by decide)
        have big : ∀ (c : UInt8) (v : Tm), isLet c = true → Wf isLet v → Wf isLet (.un k (if k = 63 then swp a old name else a) c v) := fun c v hc hv => by
          refine ⟨?_, hv⟩
          rcases hk' with ⟨rfl, h2, h3⟩ | ⟨rfl, h2, h3⟩
          · exact .inl ⟨.inr (.inl rfl), by rw [if_pos rfl]; exact hsw _ _ _ hn h2, hc⟩
          · exact .inr (.inl ⟨rfl, by rw [if_neg (by decide)]; exact h2, hc⟩)
        have hbl : isLet b = true := by rcases hk' with h | h <;> exact h.2.2
        split at h
        · simp only [Option.some.injEq] at h; subst h; exact ⟨rfl, big _ _ hbl hw2⟩
        split at h
        · obtain ⟨c, hc, h⟩ := Option.bind_eq_some_iff.mp h
          obtain ⟨t1, ht1, h⟩ := Option.bind_eq_some_iff.mp h
          obtain ⟨v, hv, rfl⟩ := Option.map_eq_some_iff.mp h
          have hcl := (freshOf_let hc).1
          obtain ⟨r1, r2⟩ := ih t name c hcl hw2 t1 ht1
          obtain ⟨r3, r4⟩ := ih t1 old name hn r2 v hv
          exact ⟨by simp only [Tm.size, r3, r1], big _ _ hcl r4⟩
        · obtain ⟨v, hv, rfl⟩ := Option.map_eq_some_iff.mp h
          obtain ⟨r1, r2⟩ := ih t old name hn hw2 v hv
          exact ⟨by simp only [Tm.size, r1], big _ _ hbl r2⟩
      · obtain ⟨v, hv, rfl⟩ := Option.map_eq_some_iff.mp h
        obtain ⟨r1, r2⟩ := ih t old name hn hw2 v hv
        exact ⟨by simp only [Tm.size, r1], hw1, r2⟩
    | bin k a b t u' =>
      obtain ⟨hw0, hwa, hwb, hw1, hw2⟩ := hw
      simp only at h
      obtain ⟨t1, ht1, h⟩ := Option.bind_eq_some_iff.mp h
      obtain ⟨v, hv, rfl⟩ := Option.map_eq_some_iff.mp h
      obtain ⟨r1, r2⟩ := ih t old name hn hw1 t1 ht1
      obtain ⟨r3, r4⟩ := ih u' old name hn hw2 v hv
      exact ⟨by simp only [Tm.size, r1, r3], hw0, hwa, hwb, r2, r4⟩
theorem fresh_tk (t : Tm) (old name : UInt8) (W : World) : Calls Try.prog 106 #[.int .u32 (Go.bits .or .u32 (Go.bits .or .u32 (setI t.fr) (setI (eqS old))) (setI (eqS name)))] W fun e w' => e = .returned (.tuple #[.int .u8 (freshInt (freshOf (tkS t old name))), .bool (freshOf (tkS t old name)).isSome]) ∧ W = w' := by
  have h : Go.bits .or .u32 (Go.bits .or .u32 (setI t.fr) (setI (eqS old))) (setI (eqS name)) = setI (tkS t old name) := by
    rw [set_or, set_or]
    exact setI_congr fun c _ => by simp only [tkS, orS, Bool.or_assoc]
  rw [h]
  exact fresh_calls _ W

end Go.Proofs.Ytfcadppidgkoaaa
