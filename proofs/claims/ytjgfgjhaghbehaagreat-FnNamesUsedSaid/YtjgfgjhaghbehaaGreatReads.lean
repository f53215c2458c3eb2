/- Several texts in one.
   The walk of reader.term: it reads what pT reads, and lays it in new memory.
   The walks of reader.term (all branches), parse and read: what they hand back, and that it lies in new memory. -/
import Derived.Test.YtjgfgjhaghbehaaGreatPtermx
import Derived.Test.YtjgfgjhaghbehaaGreatBase
import Derived.Lib.Hide
import Derived.Outline
import Derived.Test.YtjgfgjhaghbehaaGreatFreeW
namespace Go.Proofs.YtjgfgjhaghbehaaGreat.Pterm
open Go.RowKit Go.Proofs.YtjgfgjhaghbehaaGreatW.PrintWords Go.Proofs.YtjgfgjhaghbehaaGreatW.PrintLast Go.Proofs.YtjgfgjhaghbehaaGreatW.PrintMore
set_option linter.unusedVariables false
set_option linter.unusedSimpArgs false

def RdS (w0 W : World) (g : Nat) (s : List UInt8) (st : St) : Prop := ∃ pre, s = pre ++ st.1 ∧ IsS120 w0 W g (B s) (pre.length : Int) st.2

theorem next_f (s pre rest : List UInt8) (b : Bool) (hs : s = pre ++ rest) (hl : s.length ≤ 1000000) : ∃ pre', s = pre' ++ (nx (rest, b)).2.1 ∧ impl_reader_next.f (B s) pre.length b = some (vl (nx (rest, b)).1, B s, (pre'.length : Int), (nx (rest, b)).2.2) := by
  subst hs
  cases rest with
  | nil =>
    refine ⟨pre, rfl, ?_⟩
    unfold impl_reader_next.f
    rw [if_pos (by rw [B_size]; simp)]; rfl
  | cons c l =>
    refine ⟨pre ++ [c], by simp [nx], ?_⟩
    simp at hl
    have h1 : wrap64 ((pre.length : Int) + 1) = pre.length + 1 := wrap_id (by omega) (by omega)
    have h2 : wrap64 ((pre.length : Int) + 1 - 1) = pre.length := by rw [wrap_id (by omega) (by omega)]; omega
    unfold impl_reader_next.f
    rw [h1, h2, if_neg (by rw [B_size]; simp; omega), if_pos (by omega), if_pos (by rw [B_size]; simp; omega), bt_B]
    simp [nx, at_mid]

theorem next_calls {w0 w : World} {g : Nat} {s : List UInt8} {st : St} (hr : RdS w0 w g s st) (hB : Below w0.heap.size w0 w) (hl : s.length ≤ 1000000) :
    Calls Tryz.prog 100 #[.pointer (some ⟨g, 0, none⟩)] w fun e w' => e = .returned (.int .u8 (vl (nx st).1)) ∧ RdS w0 w' g s (nx st).2 ∧ Below w0.heap.size w0 w' ∧ KeepBut w w' g none := by
  obtain ⟨rest, b⟩ := st
  obtain ⟨pre, hs, hi⟩ := hr
  obtain ⟨pre', hs', hf⟩ := next_f s pre rest b hs hl
  exact (impl_reader_next.calls g _ _ _ _ _ _ _ w0 w hi hB hf).mono fun e w' ⟨h1, h2, h3, h4⟩ => ⟨h1, ⟨pre', hs', h2⟩, h3, h4⟩

theorem let_f (c : UInt8) : impl_isLetter.f (vl c) = some (isLet c) := by
  unfold impl_isLetter.f isLet
  by_cases h : vl c ≥ 97
  · rw [if_pos h]; simp [h]
  · rw [if_neg h]; simp [h]

theorem name_calls {w0 w : World} {g : Nat} {s : List UInt8} {st : St} (hr : RdS w0 w g s st) (hB : Below w0.heap.size w0 w) (hl : s.length ≤ 1000000) :
    Calls Tryz.prog 101 #[.pointer (some ⟨g, 0, none⟩)] w fun e w' => e = .returned (.int .u8 (vl (nm st).1)) ∧ RdS w0 w' g s (nm st).2 ∧ Below w0.heap.size w0 w' ∧ KeepBut w w' g none := by
  obtain ⟨rest, b⟩ := st
  obtain ⟨pre, hs, hi⟩ := hr
  obtain ⟨pre', hs', hf⟩ := next_f s pre rest b hs hl
  have hf2 : impl_reader_name.f (B s) pre.length b = some (vl (nm (rest, b)).1, B s, (pre'.length : Int), (nm (rest, b)).2.2) := by
    unfold impl_reader_name.f
    rw [hf]; simp only [Option.bind_some, let_f, nm]
    cases isLet (nx (rest, b)).1 <;> simp
  exact (impl_reader_name.calls g _ _ _ _ _ _ _ w0 w hi hB hf2).mono fun e w' ⟨h1, h2, h3, h4⟩ => ⟨h1, ⟨pre', hs', h2⟩, h3, h4⟩

theorem need_calls {w0 w : World} {g : Nat} {s : List UInt8} {st : St} (c : UInt8) (hr : RdS w0 w g s st) (hB : Below w0.heap.size w0 w) (hl : s.length ≤ 1000000) :
    Calls Tryz.prog 102 #[.pointer (some ⟨g, 0, none⟩), .int .u8 (vl c)] w fun e w' => e = .returned (.tuple #[]) ∧ RdS w0 w' g s (nd c st) ∧ Below w0.heap.size w0 w' ∧ KeepBut w w' g none := by
  obtain ⟨rest, b⟩ := st
  obtain ⟨pre, hs, hi⟩ := hr
  obtain ⟨pre', hs', hf⟩ := next_f s pre rest b hs hl
  have hf2 : impl_reader_need.f (B s) pre.length b (vl c) = some (B s, (pre'.length : Int), (nd c (rest, b)).2) := by
    unfold impl_reader_need.f
    rw [hf]; simp only [Option.bind_some, nd, vl_inj]
    by_cases h : (nx (rest, b)).1 = c <;> simp [h]
  exact (impl_reader_need.calls g _ _ _ _ _ _ _ w0 w hi hB hf2).mono fun e w' ⟨h1, h2, h3, h4⟩ => ⟨h1, ⟨pre', hs', h2⟩, h3, h4⟩

theorem letter_calls (c : UInt8) (w : World) : Calls Tryz.prog 79 #[.int .u8 (vl c)] w fun e w' => e = .returned (.bool (isLet c)) ∧ ∃ n, w' = w.drewN n :=
  (impl_isLetter.calls (vl c) _ w (let_f c)).mono fun e w' ⟨h, k⟩ => ⟨h, k.out⟩


theorem rd_cells {w0 W : World} {g : Nat} {s : List UInt8} {st : St} (h : RdS w0 W g s st) : W.cell? ⟨g, 2, none⟩ = some (.bool st.2) ∧ W.frozen? ⟨g, 2, none⟩ = false ∧ g < W.heap.size := by
  obtain ⟨pre, hs, h1, h2⟩ := h
  exact ⟨blk_cell h1 2, blk_frozen h1 2, blk_lt h1⟩

def TermPost (w0 w : World) (g : Nat) (s : List UInt8) (r : Tm × St) (e : Ending) (w' : World) : Prop :=
  ∃ b, e = .returned (.pointer (some ⟨b, 0, none⟩)) ∧ Lies w' w.heap.size r.1 b ∧ RdS w0 w' g s r.2 ∧ Below w0.heap.size w0 w' ∧ KeepBut w w' g none

theorem heap_alloc_at (w : World) (o : Obj) (n : Nat) (h : n = w.heap.size) : (w.alloc o).heap[n]? = some o := by subst h; exact heap_alloc_new w o
theorem node_new (w : World) (k a c : UInt8) (s : Value) (e : TypeId) : Node (w.alloc (.cells #[.int .u8 (vl k), .int .u8 (vl a), .int .u8 (vl c), s] e)) w.heap.size k a c s :=
  ⟨e, by simpa using heap_alloc_new w _⟩
theorem RdS.alloc {w0 W : World} {g : Nat} {s : List UInt8} {st : St} (h : RdS w0 W g s st) (o : Obj) : RdS w0 (W.alloc o) g s st := by
  obtain ⟨pre, hs, h⟩ := h; exact ⟨pre, hs, h.alloc o⟩
theorem RdS.far {w0 W : World} {g : Nat} {s : List UInt8} {st : St} (h : RdS w0 W g s st) {p : Addr} (hne : g ≠ p.block) (u : Value) : RdS w0 (W.setCell p u) g s st := by
  obtain ⟨pre, hs, h⟩ := h; exact ⟨pre, hs, h.far hne u⟩
theorem RdS.drewN {w0 W : World} {g : Nat} {s : List UInt8} {st : St} (h : RdS w0 W g s st) (m : Nat) : RdS w0 (W.drewN m) g s st := by
  obtain ⟨pre, hs, h⟩ := h; exact ⟨pre, hs, h.drewN m⟩
theorem RdS.setBad {w0 W : World} {g : Nat} {s : List UInt8} {st : St} (h : RdS w0 W g s st) : RdS w0 (W.setCell ⟨g, 2, none⟩ (.bool true)) g s (bad true st) := by
  obtain ⟨pre, hs, h⟩ := h; exact ⟨pre, hs, by simpa [bad] using h.set_2 true⟩
theorem RdS.lt {w0 W : World} {g : Nat} {s : List UInt8} {st : St} (h : RdS w0 W g s st) : g < W.heap.size := (rd_cells h).2.2

theorem keep_set_new {w W : World} {g o : Nat} (h : KeepBut w W g none) (ho : w.heap.size ≤ o) (i : Nat) (u : Value) : KeepBut w (W.setCell ⟨o, i, none⟩ u) g none :=
  ⟨by simpa [World.setCell] using h.1, fun j hj h1 h2 => (Below.heap_setCell _ _ _ _ (by simp; omega)).trans (h.2 j hj h1 h2)⟩

set_option maxHeartbeats 400000 in
theorem term_bad (n : Nat) (s : List UInt8) (st : St) (w0 w : World) (g : Nat) (hb : st.2 = true) (hr : RdS w0 w g s st) (hB : Below w0.heap.size w0 w) :
    Calls Tryz.prog 97 #[.pointer (some ⟨g, 0, none⟩)] w (TermPost w0 w g s (.leaf 48 0 0, st)) := by
  obtain ⟨c2, f2, hg⟩ := rd_cells hr
  rw [hb] at c2
  clear hb
  go_enter Tryz.func97, Tryz.ntmps97
  go_wp2_with fail
  go_ret
  exact ⟨_, rfl, ⟨Nat.le_refl _, none, 0, node_new w 48 0 0 _ _⟩, hr.alloc _, below_alloc hB _, keep_alloc (KeepBut.refl _ _ _) _⟩

structure Mid (w0 w W : World) (g : Nat) (s : List UInt8) (st : St) (k a c : UInt8) (sl : Value) : Prop where
  rd : RdS w0 W g s st
  hb : Below w0.heap.size w0 W
  kp : KeepBut w W g none
  no : Node W w.heap.size k a c sl
  lt : g < w.heap.size
  le : w0.heap.size ≤ w.heap.size

section
variable {w0 w W : World} {g : Nat} {s : List UInt8} {st : St} {k a c : UInt8} {sl : Value}
theorem Mid.start (hr : RdS w0 w g s st) (hB : Below w0.heap.size w0 w) (e : TypeId) : Mid w0 w (w.alloc (.cells #[.int .u8 (vl 48), .int .u8 (vl 0), .int .u8 (vl 0), .slice none 0 0] e)) g s st 48 0 0 (.slice none 0 0) :=
  ⟨hr.alloc _, below_alloc hB _, keep_alloc (KeepBut.refl _ _ _) _, node_new w 48 0 0 _ e, hr.lt, hB.size⟩
theorem Mid.call (h : Mid w0 w W g s st k a c sl) {W' : World} {st' : St} (h1 : RdS w0 W' g s st') (h2 : Below w0.heap.size w0 W') (h3 : KeepBut W W' g none) : Mid w0 w W' g s st' k a c sl :=
  ⟨h1, h2, h.kp.trans h3 (.inl rfl), h.no.keep (h3.2 _ h.no.lt (by have := h.lt; omega) (by simp)), h.lt, h.le⟩
theorem Mid.drewN (h : Mid w0 w W g s st k a c sl) (m : Nat) : Mid w0 w (W.drewN m) g s st k a c sl := ⟨h.rd.drewN m, pw_below_drewN h.hb m, h.kp, h.no, h.lt, h.le⟩
theorem Mid.alloc (h : Mid w0 w W g s st k a c sl) (o : Obj) : Mid w0 w (W.alloc o) g s st k a c sl :=
  ⟨h.rd.alloc o, below_alloc h.hb o, keep_alloc h.kp o, h.no.keep (Below.heap_alloc _ _ _ h.no.lt), h.lt, h.le⟩
theorem node_set {o : Nat} (h : Node W o k a c sl) (i : Nat) (u : Value) : ∃ e, (W.setCell ⟨o, i, none⟩ u).heap[o]? = some (.cells ((#[.int .u8 (vl k), .int .u8 (vl a), .int .u8 (vl c), sl] : Array Value).setIfInBounds i u) e (0, 0)) := by
  obtain ⟨e, h⟩ := h; exact ⟨e, blk_set h i u⟩
theorem Mid.set0 (h : Mid w0 w W g s st k a c sl) (x : UInt8) : Mid w0 w (W.setCell ⟨w.heap.size, 0, none⟩ (.int .u8 (vl x))) g s st x a c sl :=
  ⟨h.rd.far (by have := h.lt; simp; omega) _, below_set h.hb h.le, keep_set_new h.kp (Nat.le_refl _) _ _, node_set h.no 0 _, h.lt, h.le⟩
theorem Mid.set1 (h : Mid w0 w W g s st k a c sl) (x : UInt8) : Mid w0 w (W.setCell ⟨w.heap.size, 1, none⟩ (.int .u8 (vl x))) g s st k x c sl :=
  ⟨h.rd.far (by have := h.lt; simp; omega) _, below_set h.hb h.le, keep_set_new h.kp (Nat.le_refl _) _ _, node_set h.no 1 _, h.lt, h.le⟩
theorem Mid.set2 (h : Mid w0 w W g s st k a c sl) (x : UInt8) : Mid w0 w (W.setCell ⟨w.heap.size, 2, none⟩ (.int .u8 (vl x))) g s st k a x sl :=
  ⟨h.rd.far (by have := h.lt; simp; omega) _, below_set h.hb h.le, keep_set_new h.kp (Nat.le_refl _) _ _, node_set h.no 2 _, h.lt, h.le⟩
theorem Mid.set3 (h : Mid w0 w W g s st k a c sl) (x : Value) : Mid w0 w (W.setCell ⟨w.heap.size, 3, none⟩ x) g s st k a c x :=
  ⟨h.rd.far (by have := h.lt; simp; omega) _, below_set h.hb h.le, keep_set_new h.kp (Nat.le_refl _) _ _, node_set h.no 3 _, h.lt, h.le⟩
theorem Mid.setBad (h : Mid w0 w W g s st k a c sl) : Mid w0 w (W.setCell ⟨g, 2, none⟩ (.bool true)) g s (bad true st) k a c sl :=
  ⟨h.rd.setBad, below_set h.hb (by obtain ⟨_, _, h1, h2⟩ := h.rd; exact h2), h.kp.set_ _ _, h.no.keep (Below.heap_setCell _ _ _ _ (by have := h.lt; simp; omega)), h.lt, h.le⟩
theorem Mid.cells (h : Mid w0 w W g s st k a c sl) :
    W.cell? ⟨w.heap.size, 0, none⟩ = some (.int .u8 (vl k)) ∧ W.cell? ⟨w.heap.size, 1, none⟩ = some (.int .u8 (vl a)) ∧ W.cell? ⟨w.heap.size, 2, none⟩ = some (.int .u8 (vl c)) ∧ W.cell? ⟨w.heap.size, 3, none⟩ = some sl ∧ (∀ i, W.frozen? ⟨w.heap.size, i, none⟩ = false) := by
  obtain ⟨e, h⟩ := h.no
  exact ⟨blk_cell h 0, blk_cell h 1, blk_cell h 2, blk_cell h 3, fun i => blk_frozen h i⟩
end

theorem Mid.finish {w0 w W W5 : World} {g : Nat} {s : List UInt8} {st st' : St} {k a c : UInt8} {sl : Value} (h : Mid w0 w W g s st k a c sl) {t : Tm} {b5 : Nat} (hl : Lies W5 W.heap.size t b5)
    (h1 : RdS w0 W5 g s st') (h2 : Below w0.heap.size w0 W5) (h3 : KeepBut W W5 g none) (e : TypeId) :
    TermPost w0 w g s (.un k a c t, st') (.returned (.pointer (some ⟨w.heap.size, 0, none⟩)))
      ((W5.setCell ⟨w.heap.size, 3, none⟩ (.slice (some ⟨W5.heap.size, 0, none⟩) 1 1)).alloc (.cells #[.pointer (some ⟨b5, 0, none⟩)] e)) := by
  have M := ((h.call h1 h2 h3).set3 (.slice (some ⟨W5.heap.size, 0, none⟩) 1 1)).alloc (.cells #[.pointer (some ⟨b5, 0, none⟩)] e)
  have ho := h.no.lt
  have hs := h3.1
  have hs2 := h.kp.1
  have hz : (W5.setCell ⟨w.heap.size, 3, none⟩ (.slice (some ⟨W5.heap.size, 0, none⟩) 1 1)).heap.size = W5.heap.size := by simp [World.setCell]
  refine ⟨w.heap.size, rfl, ⟨Nat.le_refl _, W5.heap.size, 1, b5, by omega, M.no, ⟨_, e, heap_alloc_at _ _ _ hz.symm, rfl⟩, ?_⟩, M.rd, M.hb, M.kp⟩
  refine (hl.keep fun i hi hi' => ?_).mono (by omega)
  exact (Below.heap_alloc _ _ _ (by rw [hz]; exact hi')).trans (Below.heap_setCell _ _ _ _ (by simp; omega))

structure Mid2 (w0 w W : World) (g : Nat) (s : List UInt8) (st : St) (k a c : UInt8) (sl : Value) (N1 b1 : Nat) (one : Tm) : Prop where
  mid : Mid w0 w W g s st k a c sl
  l1 : Lies W N1 one b1
  n1 : w.heap.size < N1
section
variable {w0 w W : World} {g : Nat} {s : List UInt8} {st : St} {k a c : UInt8} {sl : Value} {N1 b1 : Nat} {one : Tm}
theorem Mid2.call (h : Mid2 w0 w W g s st k a c sl N1 b1 one) {W' : World} {st' : St} (h1 : RdS w0 W' g s st') (h2 : Below w0.heap.size w0 W') (h3 : KeepBut W W' g none) : Mid2 w0 w W' g s st' k a c sl N1 b1 one :=
  ⟨h.mid.call h1 h2 h3, h.l1.butOne h3 (by have := h.n1; have := h.mid.lt; omega), h.n1⟩
theorem Mid2.set0 (h : Mid2 w0 w W g s st k a c sl N1 b1 one) (x : UInt8) : Mid2 w0 w (W.setCell ⟨w.heap.size, 0, none⟩ (.int .u8 (vl x))) g s st x a c sl N1 b1 one :=
  ⟨h.mid.set0 x, h.l1.keep fun i hi _ => Below.heap_setCell _ _ _ _ (by have := h.n1; simp; omega), h.n1⟩
theorem Mid2.setBad (h : Mid2 w0 w W g s st k a c sl N1 b1 one) : Mid2 w0 w (W.setCell ⟨g, 2, none⟩ (.bool true)) g s (bad true st) k a c sl N1 b1 one :=
  ⟨h.mid.setBad, h.l1.keep fun i hi _ => Below.heap_setCell _ _ _ _ (by have := h.n1; have := h.mid.lt; simp; omega), h.n1⟩
theorem Mid2.finish (h : Mid2 w0 w W g s st k a c sl N1 b1 one) {W5 : World} {st' : St} {t : Tm} {b5 : Nat} (hl : Lies W5 W.heap.size t b5)
    (h1 : RdS w0 W5 g s st') (h2 : Below w0.heap.size w0 W5) (h3 : KeepBut W W5 g none) (e : TypeId) :
    Mid w0 w ((W5.setCell ⟨w.heap.size, 3, none⟩ (.slice (some ⟨W5.heap.size, 0, none⟩) 2 2)).alloc (.cells #[.pointer (some ⟨b1, 0, none⟩), .pointer (some ⟨b5, 0, none⟩)] e)) g s st' k a c (.slice (some ⟨W5.heap.size, 0, none⟩) 2 2) ∧
    ∀ W6 st6, KeepBut ((W5.setCell ⟨w.heap.size, 3, none⟩ (.slice (some ⟨W5.heap.size, 0, none⟩) 2 2)).alloc (.cells #[.pointer (some ⟨b1, 0, none⟩), .pointer (some ⟨b5, 0, none⟩)] e)) W6 g none →
      RdS w0 W6 g s st6 → Below w0.heap.size w0 W6 → TermPost w0 w g s (.bin k a c one t, st6) (.returned (.pointer (some ⟨w.heap.size, 0, none⟩))) W6 := by
  have hcall := h.call h1 h2 h3
  have M := (hcall.mid.set3 (.slice (some ⟨W5.heap.size, 0, none⟩) 2 2)).alloc (.cells #[.pointer (some ⟨b1, 0, none⟩), .pointer (some ⟨b5, 0, none⟩)] e)
  have ho := h.mid.no.lt
  have hs := h3.1
  have hs2 := h.mid.kp.1
  have hz : (W5.setCell ⟨w.heap.size, 3, none⟩ (.slice (some ⟨W5.heap.size, 0, none⟩) 2 2)).heap.size = W5.heap.size := by simp [World.setCell]
  have hn1 := h.n1
  have hg := h.mid.lt
  refine ⟨M, fun W6 st6 hk hr6 hb6 => ?_⟩
  have M6 := M.call hr6 hb6 hk
  have hrow := heap_alloc_at (W5.setCell ⟨w.heap.size, 3, none⟩ (.slice (some ⟨W5.heap.size, 0, none⟩) 2 2)) (.cells #[.pointer (some ⟨b1, 0, none⟩), .pointer (some ⟨b5, 0, none⟩)] e) _ hz.symm
  have hrow6 := (hk.2 W5.heap.size (blk_lt hrow) (by omega) (by simp)).trans hrow
  have hla : ∀ {N : Nat} {u : Tm} {b : Nat}, w.heap.size < N → Lies W5 N u b → Lies W6 w.heap.size u b := fun hN hu => by
    refine Lies.mono (Nat.le_of_lt hN) (hu.keep fun i hi hi' => ?_)
    refine (hk.2 i (by simp [World.setCell]; omega) (by omega) (by simp)).trans ?_
    exact (Below.heap_alloc _ _ _ (by rw [hz]; exact hi')).trans (Below.heap_setCell _ _ _ _ (by simp; omega))
  exact ⟨w.heap.size, rfl, ⟨Nat.le_refl _, W5.heap.size, 2, b1, b5, by omega, M6.no, ⟨_, e, hrow6, rfl⟩, ⟨_, e, hrow6, rfl⟩, hla hn1 hcall.l1, hla (by omega) hl⟩, M6.rd, M6.hb, M6.kp⟩
end

def TermUpto (n : Nat) (s : List UInt8) : Prop := ∀ (st : St) (w0 w : World) (g : Nat), mu st < n → RdS w0 w g s st → Below w0.heap.size w0 w →
    Calls Tryz.prog 97 #[.pointer (some ⟨g, 0, none⟩)] w (TermPost w0 w g s (pT n st))

theorem ne_vl {x y : UInt8} (h : x ≠ y) : (vl x == vl y) = false := by simp [vl_inj, h]
theorem ne_vl' {x y : UInt8} (h : x ≠ y) : (vl x != vl y) = true := by simp [bne, vl_inj, h]

set_option maxHeartbeats 1000000 in
theorem term_letter (n : Nat) (s : List UInt8) (st : St) (w0 w : World) (g : Nat) (hb : st.2 = false) (hc0 : (nx st).1 ≠ 48) (hc : isLet (nx st).1 = true) (hl : s.length ≤ 1000000) (hr : RdS w0 w g s st) (hB : Below w0.heap.size w0 w)
    (ih : TermUpto n s) (k : UInt8) (st2 : St) (hmu : mu (nd 46 (nm st2).2) < n) (hk : k = (nx (nx st).2).1) (hst2 : st2 = bad (k != 33 && k != 63) (nx (nx st).2).2) :
    Calls Tryz.prog 97 #[.pointer (some ⟨g, 0, none⟩)] w (TermPost w0 w g s (.un k (nx st).1 (nm st2).1 (pT n (nd 46 (nm st2).2)).1, (pT n (nd 46 (nm st2).2)).2)) := by
  obtain ⟨c2, f2, hg⟩ := rd_cells hr
  rw [hb] at c2
  clear hb
  have M0 := Mid.start hr hB 106
  have q48 : (vl (nx st).1 == 48) = false := ne_vl hc0
  go_enter Tryz.func97, Tryz.ntmps97
  go_wp2_with fail
  refine (next_calls M0.rd M0.hb hl).mono ?_
  rintro e w1 ⟨rfl, h1, h2, h3⟩
  have M1 := M0.call h1 h2 h3
  clear h1 h2 h3 M0 c2 f2
  go_wp2_with fail
  refine (letter_calls _ _).mono ?_
  rintro e w' ⟨rfl, ⟨m, rfl⟩⟩
  replace M1 := M1.drewN m
  rw [hc]
  go_wp2_with fail
  refine (next_calls M1.rd M1.hb hl).mono ?_
  rintro e w2 ⟨rfl, h1, h2, h3⟩
  replace M1 := M1.call h1 h2 h3
  clear h1 h2 h3
  rw [← hk]
  have M2 := (M1.set1 (nx st).1).set0 k
  obtain ⟨q0, q1, q2, q3, qf⟩ := M1.cells
  obtain ⟨r2, rf, rg⟩ := rd_cells M1.rd
  clear M1
  have HB : Hid (bad (k != 33 && k != 63) (nx (nx st).2).2 = st2) := hst2.symm
  clear hst2 hk
  rcases (by by_cases h1 : k = 33; · exact .inl h1
             by_cases h2 : k = 63; · exact .inr (.inl h2)
             exact .inr (.inr ⟨h1, h2⟩) : k = 33 ∨ k = 63 ∨ (k ≠ 33 ∧ k ≠ 63)) with rfl | rfl | ⟨k1, k2⟩
  · rw [show (nx (nx st).2).2 = st2 from by rw [← HB.out]; simp [bad]] at M2
    go_wp2_with fail
    refine (name_calls M2.rd M2.hb hl).mono ?_
    rintro e w3 ⟨rfl, h1, h2, h3⟩
    have M3 := M2.call h1 h2 h3
    clear h1 h2 h3 M2
    obtain ⟨q0, q1, q2, q3, qf⟩ := M3.cells
    replace M3 := M3.set2 (nm st2).1
    go_wp2_with fail
    refine (need_calls 46 M3.rd M3.hb hl).mono ?_
    rintro e w4 ⟨rfl, h1, h2, h3⟩
    have M4 := M3.call h1 h2 h3
    clear h1 h2 h3 M3
    clear q0 q1 q2 q3 qf r2 rf
    go_wp2_with fail
    refine (ih _ _ _ _ hmu M4.rd M4.hb).mono ?_
    rintro e w5 ⟨b5, rfl, hl5, h1, h2, h3⟩
    have FIN := Lib.hid (M4.finish hl5 h1 h2 h3 40)
    have M5 := M4.call h1 h2 h3
    obtain ⟨q0, q1, q2, q3, qf⟩ := M5.cells
    have ho5 := M5.no.lt
    clear h1 h2 h3 hl5 M4 M5
    go_wp2_with fail
    go_ret
    exact FIN.out
  · rw [show (nx (nx st).2).2 = st2 from by rw [← HB.out]; simp [bad]] at M2
    go_wp2_with fail
    refine (name_calls M2.rd M2.hb hl).mono ?_
    rintro e w3 ⟨rfl, h1, h2, h3⟩
    have M3 := M2.call h1 h2 h3
    clear h1 h2 h3 M2
    obtain ⟨q0, q1, q2, q3, qf⟩ := M3.cells
    replace M3 := M3.set2 (nm st2).1
    go_wp2_with fail
    refine (need_calls 46 M3.rd M3.hb hl).mono ?_
    rintro e w4 ⟨rfl, h1, h2, h3⟩
    have M4 := M3.call h1 h2 h3
    clear h1 h2 h3 M3
    clear q0 q1 q2 q3 qf r2 rf
    go_wp2_with fail
    refine (ih _ _ _ _ hmu M4.rd M4.hb).mono ?_
    rintro e w5 ⟨b5, rfl, hl5, h1, h2, h3⟩
    have FIN := Lib.hid (M4.finish hl5 h1 h2 h3 40)
    have M5 := M4.call h1 h2 h3
    obtain ⟨q0, q1, q2, q3, qf⟩ := M5.cells
    have ho5 := M5.no.lt
    clear h1 h2 h3 hl5 M4 M5
    go_wp2_with fail
    go_ret
    exact FIN.out
  · replace M2 := M2.setBad
    rw [show bad true (nx (nx st).2).2 = st2 from by rw [← HB.out]; simp [bad, k1, k2]] at M2
    have e1 : (vl k != 33) = true := ne_vl' k1
    have e2 : (vl k != 63) = true := ne_vl' k2
    go_wp2_with fail
    refine (name_calls M2.rd M2.hb hl).mono ?_
    rintro e w3 ⟨rfl, h1, h2, h3⟩
    have M3 := M2.call h1 h2 h3
    clear h1 h2 h3 M2
    obtain ⟨q0, q1, q2, q3, qf⟩ := M3.cells
    replace M3 := M3.set2 (nm st2).1
    go_wp2_with fail
    refine (need_calls 46 M3.rd M3.hb hl).mono ?_
    rintro e w4 ⟨rfl, h1, h2, h3⟩
    have M4 := M3.call h1 h2 h3
    clear h1 h2 h3 M3
    clear q0 q1 q2 q3 qf r2 rf
    go_wp2_with fail
    refine (ih _ _ _ _ hmu M4.rd M4.hb).mono ?_
    rintro e w5 ⟨b5, rfl, hl5, h1, h2, h3⟩
    have FIN := Lib.hid (M4.finish hl5 h1 h2 h3 40)
    have M5 := M4.call h1 h2 h3
    obtain ⟨q0, q1, q2, q3, qf⟩ := M5.cells
    have ho5 := M5.no.lt
    clear h1 h2 h3 hl5 M4 M5
    go_wp2_with fail
    go_ret
    exact FIN.out

set_option maxHeartbeats 1000000 in
theorem term_tilde (n : Nat) (s : List UInt8) (st : St) (w0 w : World) (g : Nat) (hb : st.2 = false) (hc : (nx st).1 = 126) (hl : s.length ≤ 1000000) (hr : RdS w0 w g s st) (hB : Below w0.heap.size w0 w)
    (ih : TermUpto n s) (hmu : mu (nd 46 (nx st).2) < n) :
    Calls Tryz.prog 97 #[.pointer (some ⟨g, 0, none⟩)] w (TermPost w0 w g s (.un 126 0 0 (pT n (nd 46 (nx st).2)).1, (pT n (nd 46 (nx st).2)).2)) := by
  obtain ⟨c2, f2, hg⟩ := rd_cells hr
  rw [hb] at c2
  clear hb
  have M0 := Mid.start hr hB 106
  have HC := Lib.hid hc
  clear hc
  go_enter Tryz.func97, Tryz.ntmps97
  go_wp2_with fail
  refine (next_calls M0.rd M0.hb hl).mono ?_
  rintro e w1 ⟨rfl, h1, h2, h3⟩
  have M1 := M0.call h1 h2 h3
  clear h1 h2 h3 M0 c2 f2
  rw [HC.out]
  go_wp2_with fail
  refine (letter_calls 126 _).mono ?_
  rintro e w' ⟨rfl, ⟨m, rfl⟩⟩
  replace M1 := M1.drewN m
  rw [show isLet 126 = false from by decide]
  obtain ⟨q0, q1, q2, q3, qf⟩ := M1.cells
  replace M1 := M1.set0 126
  go_wp2_with fail
  refine (need_calls 46 M1.rd M1.hb hl).mono ?_
  rintro e w2 ⟨rfl, h1, h2, h3⟩
  have M2 := M1.call h1 h2 h3
  clear h1 h2 h3 M1
  clear q0 q1 q2 q3 qf
  go_wp2_with fail
  refine (ih _ _ _ _ hmu M2.rd M2.hb).mono ?_
  rintro e w3 ⟨b5, rfl, hl5, h1, h2, h3⟩
  have FIN := Lib.hid (M2.finish hl5 h1 h2 h3 40)
  have M3 := M2.call h1 h2 h3
  obtain ⟨q0, q1, q2, q3, qf⟩ := M3.cells
  have ho5 := M3.no.lt
  clear h1 h2 h3 hl5 M2 M3
  go_wp2_with fail
  go_ret
  exact FIN.out

set_option maxHeartbeats 1000000 in
theorem term_hash (n : Nat) (s : List UInt8) (st : St) (w0 w : World) (g : Nat) (hb : st.2 = false) (hc : (nx st).1 = 35) (hl : s.length ≤ 1000000) (hr : RdS w0 w g s st) (hB : Below w0.heap.size w0 w)
    (ih : TermUpto n s) (hmu : mu (nd 46 (nm (nx st).2).2) < n) :
    Calls Tryz.prog 97 #[.pointer (some ⟨g, 0, none⟩)] w (TermPost w0 w g s (.un 35 0 (nm (nx st).2).1 (pT n (nd 46 (nm (nx st).2).2)).1, (pT n (nd 46 (nm (nx st).2).2)).2)) := by
  obtain ⟨c2, f2, hg⟩ := rd_cells hr
  rw [hb] at c2
  clear hb
  have M0 := Mid.start hr hB 106
  have HC := Lib.hid hc
  clear hc
  go_enter Tryz.func97, Tryz.ntmps97
  go_wp2_with fail
  refine (next_calls M0.rd M0.hb hl).mono ?_
  rintro e w1 ⟨rfl, h1, h2, h3⟩
  have M1 := M0.call h1 h2 h3
  clear h1 h2 h3 M0 c2 f2
  rw [HC.out]
  go_wp2_with fail
  refine (letter_calls 35 _).mono ?_
  rintro e w' ⟨rfl, ⟨m, rfl⟩⟩
  replace M1 := M1.drewN m
  rw [show isLet 35 = false from by decide]
  obtain ⟨q0, q1, q2, q3, qf⟩ := M1.cells
  clear q0 q1 q2 q3 qf
  go_wp2_with fail
  refine (name_calls M1.rd M1.hb hl).mono ?_
  rintro e w2 ⟨rfl, h1, h2, h3⟩
  have M2 := M1.call h1 h2 h3
  clear h1 h2 h3 M1
  obtain ⟨q0, q1, q2, q3, qf⟩ := M2.cells
  replace M2 := (M2.set0 35).set2 (nm (nx st).2).1
  go_wp2_with fail
  refine (need_calls 46 M2.rd M2.hb hl).mono ?_
  rintro e w3 ⟨rfl, h1, h2, h3⟩
  have M3 := M2.call h1 h2 h3
  clear h1 h2 h3 M2
  clear q0 q1 q2 q3 qf
  go_wp2_with fail
  refine (ih _ _ _ _ hmu M3.rd M3.hb).mono ?_
  rintro e w4 ⟨b5, rfl, hl5, h1, h2, h3⟩
  have FIN := Lib.hid (M3.finish hl5 h1 h2 h3 40)
  have M4 := M3.call h1 h2 h3
  obtain ⟨q0, q1, q2, q3, qf⟩ := M4.cells
  have ho5 := M4.no.lt
  clear h1 h2 h3 hl5 M3 M4
  go_wp2_with fail
  go_ret
  exact FIN.out

set_option maxHeartbeats 1000000 in
theorem term_match (n : Nat) (s : List UInt8) (st : St) (w0 w : World) (g : Nat) (hb : st.2 = false) (hc : (nx st).1 = 91) (hl : s.length ≤ 1000000) (hr : RdS w0 w g s st) (hB : Below w0.heap.size w0 w)
    (ih : TermUpto n s) (st2 : St) (hst2 : nd 61 (nm (nx st).2).2 = st2) (hmu : mu (nd 93 (nm st2).2) < n) :
    Calls Tryz.prog 97 #[.pointer (some ⟨g, 0, none⟩)] w (TermPost w0 w g s (.un 61 (nm (nx st).2).1 (nm st2).1 (pT n (nd 93 (nm st2).2)).1, (pT n (nd 93 (nm st2).2)).2)) := by
  have HS := Lib.hid hst2
  clear hst2
  obtain ⟨c2, f2, hg⟩ := rd_cells hr
  rw [hb] at c2
  clear hb
  have M0 := Mid.start hr hB 106
  have HC := Lib.hid hc
  clear hc
  go_enter Tryz.func97, Tryz.ntmps97
  go_wp2_with fail
  refine (next_calls M0.rd M0.hb hl).mono ?_
  rintro e w1 ⟨rfl, h1, h2, h3⟩
  have M1 := M0.call h1 h2 h3
  clear h1 h2 h3 M0 c2 f2
  rw [HC.out]
  go_wp2_with fail
  refine (letter_calls 91 _).mono ?_
  rintro e w' ⟨rfl, ⟨m, rfl⟩⟩
  replace M1 := M1.drewN m
  rw [show isLet 91 = false from by decide]
  obtain ⟨q0, q1, q2, q3, qf⟩ := M1.cells
  clear q0 q1 q2 q3 qf
  go_wp2_with fail
  refine (name_calls M1.rd M1.hb hl).mono ?_
  rintro e w2 ⟨rfl, h1, h2, h3⟩
  have M2 := M1.call h1 h2 h3
  clear h1 h2 h3 M1
  obtain ⟨q0, q1, q2, q3, qf⟩ := M2.cells
  replace M2 := (M2.set0 61).set1 (nm (nx st).2).1
  go_wp2_with fail
  refine (need_calls 61 M2.rd M2.hb hl).mono ?_
  rintro e w3 ⟨rfl, h1, h2, h3⟩
  have M3 := M2.call h1 h2 h3
  clear h1 h2 h3 M2
  rw [HS.out] at M3
  clear q0 q1 q2 q3 qf
  go_wp2_with fail
  refine (name_calls M3.rd M3.hb hl).mono ?_
  rintro e w4 ⟨rfl, h1, h2, h3⟩
  have M4 := M3.call h1 h2 h3
  clear h1 h2 h3 M3
  obtain ⟨q0, q1, q2, q3, qf⟩ := M4.cells
  replace M4 := M4.set2 (nm st2).1
  go_wp2_with fail
  refine (need_calls 93 M4.rd M4.hb hl).mono ?_
  rintro e w5 ⟨rfl, h1, h2, h3⟩
  have M5 := M4.call h1 h2 h3
  clear h1 h2 h3 M4
  clear q0 q1 q2 q3 qf
  go_wp2_with fail
  refine (ih _ _ _ _ hmu M5.rd M5.hb).mono ?_
  rintro e w6 ⟨b5, rfl, hl5, h1, h2, h3⟩
  have FIN := Lib.hid (M5.finish hl5 h1 h2 h3 40)
  have M6 := M5.call h1 h2 h3
  obtain ⟨q0, q1, q2, q3, qf⟩ := M6.cells
  have ho5 := M6.no.lt
  clear h1 h2 h3 hl5 M5 M6
  go_wp2_with fail
  go_ret
  exact FIN.out

set_option maxHeartbeats 1000000 in
theorem term_star (n : Nat) (s : List UInt8) (st : St) (w0 w : World) (g : Nat) (hb : st.2 = false) (hc : (nx st).1 = 42) (hl : s.length ≤ 1000000) (hr : RdS w0 w g s st) (hB : Below w0.heap.size w0 w)
    (ih : TermUpto n s) (hmu : mu (nx st).2 < n) :
    Calls Tryz.prog 97 #[.pointer (some ⟨g, 0, none⟩)] w (TermPost w0 w g s (.un 42 0 0 (pT n (nx st).2).1, (pT n (nx st).2).2)) := by
  obtain ⟨c2, f2, hg⟩ := rd_cells hr
  rw [hb] at c2
  clear hb
  have M0 := Mid.start hr hB 106
  have HC := Lib.hid hc
  clear hc
  go_enter Tryz.func97, Tryz.ntmps97
  go_wp2_with fail
  refine (next_calls M0.rd M0.hb hl).mono ?_
  rintro e w1 ⟨rfl, h1, h2, h3⟩
  have M1 := M0.call h1 h2 h3
  clear h1 h2 h3 M0 c2 f2
  rw [HC.out]
  go_wp2_with fail
  refine (letter_calls 42 _).mono ?_
  rintro e w' ⟨rfl, ⟨m, rfl⟩⟩
  replace M1 := M1.drewN m
  rw [show isLet 42 = false from by decide]
  obtain ⟨q0, q1, q2, q3, qf⟩ := M1.cells
  replace M1 := M1.set0 42
  go_wp2_with fail
  refine (ih _ _ _ _ hmu M1.rd M1.hb).mono ?_
  rintro e w2 ⟨b5, rfl, hl5, h1, h2, h3⟩
  have FIN := Lib.hid (M1.finish hl5 h1 h2 h3 40)
  have M2 := M1.call h1 h2 h3
  obtain ⟨q0, q1, q2, q3, qf⟩ := M2.cells
  have ho5 := M2.no.lt
  clear h1 h2 h3 hl5 M1 M2
  go_wp2_with fail
  go_ret
  exact FIN.out

set_option maxHeartbeats 1000000 in
theorem term_other (n : Nat) (s : List UInt8) (st : St) (w0 w : World) (g : Nat) (hb : st.2 = false) (hc : isLet (nx st).1 = false) (hc1 : (nx st).1 ≠ 48) (hc2 : (nx st).1 ≠ 126) (hc3 : (nx st).1 ≠ 35) (hc4 : (nx st).1 ≠ 91) (hc5 : (nx st).1 ≠ 42) (hc6 : (nx st).1 ≠ 40)
    (hl : s.length ≤ 1000000) (hr : RdS w0 w g s st) (hB : Below w0.heap.size w0 w) (ih : TermUpto n s) (hmu : mu (bad true (nx st).2) < n) :
    Calls Tryz.prog 97 #[.pointer (some ⟨g, 0, none⟩)] w (TermPost w0 w g s (.un 48 0 0 (pT n (bad true (nx st).2)).1, (pT n (bad true (nx st).2)).2)) := by
  obtain ⟨c2, f2, hg⟩ := rd_cells hr
  rw [hb] at c2
  clear hb
  have M0 := Mid.start hr hB 106
  have p1 : (vl (nx st).1 == 48) = false := ne_vl hc1
  have p2 : (vl (nx st).1 == 126) = false := ne_vl hc2
  have p3 : (vl (nx st).1 == 35) = false := ne_vl hc3
  have p4 : (vl (nx st).1 == 91) = false := ne_vl hc4
  have p5 : (vl (nx st).1 == 42) = false := ne_vl hc5
  have p6 : (vl (nx st).1 == 40) = false := ne_vl hc6
  clear hc1 hc2 hc3 hc4 hc5 hc6
  go_enter Tryz.func97, Tryz.ntmps97
  go_wp2_with fail
  refine (next_calls M0.rd M0.hb hl).mono ?_
  rintro e w1 ⟨rfl, h1, h2, h3⟩
  have M1 := M0.call h1 h2 h3
  clear h1 h2 h3 M0 c2 f2
  go_wp2_with fail
  refine (letter_calls _ _).mono ?_
  rintro e w' ⟨rfl, ⟨m, rfl⟩⟩
  replace M1 := M1.drewN m
  rw [hc]
  obtain ⟨r2, rf, rg⟩ := rd_cells M1.rd
  replace M1 := M1.setBad
  go_wp2_with fail
  refine (ih _ _ _ _ hmu M1.rd M1.hb).mono ?_
  rintro e w2 ⟨b5, rfl, hl5, h1, h2, h3⟩
  have FIN := Lib.hid (M1.finish hl5 h1 h2 h3 40)
  have M2 := M1.call h1 h2 h3
  obtain ⟨q0, q1, q2, q3, qf⟩ := M2.cells
  have ho5 := M2.no.lt
  clear h1 h2 h3 hl5 M1 M2
  go_wp2_with fail
  go_ret
  exact FIN.out

set_option maxHeartbeats 1000000 in
theorem term_paren (n : Nat) (s : List UInt8) (st : St) (w0 w : World) (g : Nat) (hb : st.2 = false) (hc : (nx st).1 = 40) (hl : s.length ≤ 1000000) (hr : RdS w0 w g s st) (hB : Below w0.heap.size w0 w)
    (ih : TermUpto n s) (one : Tm) (st2 st3 : St) (k : UInt8) (hone : pT n (nx st).2 = (one, st2)) (hk : k = (nx st2).1) (hst3 : st3 = bad (k != 43 && k != 38) (nx st2).2) (hmu : mu (nx st).2 < n) (hmu3 : mu st3 < n) :
    Calls Tryz.prog 97 #[.pointer (some ⟨g, 0, none⟩)] w (TermPost w0 w g s (.bin k 0 0 one (pT n st3).1, nd 41 (pT n st3).2)) := by
  have HO := Lib.hid hone
  clear hone
  have HB : Hid (bad (k != 43 && k != 38) (nx st2).2 = st3) := hst3.symm
  clear hst3
  obtain ⟨c2, f2, hg⟩ := rd_cells hr
  rw [hb] at c2
  clear hb
  have M0 := Mid.start hr hB 106
  have HC := Lib.hid hc
  clear hc
  go_enter Tryz.func97, Tryz.ntmps97
  go_wp2_with fail
  refine (next_calls M0.rd M0.hb hl).mono ?_
  rintro e w1 ⟨rfl, h1, h2, h3⟩
  have M1 := M0.call h1 h2 h3
  clear h1 h2 h3 M0 c2 f2
  rw [HC.out]
  go_wp2_with fail
  refine (letter_calls 40 _).mono ?_
  rintro e w' ⟨rfl, ⟨m, rfl⟩⟩
  replace M1 := M1.drewN m
  rw [show isLet 40 = false from by decide]
  obtain ⟨q0, q1, q2, q3, qf⟩ := M1.cells
  clear q0 q1 q2 q3 qf
  go_wp2_with fail
  refine (ih _ _ _ _ hmu M1.rd M1.hb).mono ?_
  rintro e w2 ⟨b1, rfl, hl1, h1, h2, h3⟩
  rw [HO.out] at hl1 h1
  have M2 : Mid2 _ _ _ _ _ _ _ _ _ _ _ _ _ := ⟨M1.call h1 h2 h3, hl1, M1.no.lt⟩
  clear h1 h2 h3 hl1 M1
  go_wp2_with fail
  refine (next_calls M2.mid.rd M2.mid.hb hl).mono ?_
  rintro e w3 ⟨rfl, h1, h2, h3⟩
  have M3 := M2.call h1 h2 h3
  clear h1 h2 h3 M2
  rw [← hk]
  clear hk
  obtain ⟨q0, q1, q2, q3, qf⟩ := M3.mid.cells
  obtain ⟨r2, rf, rg⟩ := rd_cells M3.mid.rd
  replace M3 := M3.set0 k
  rcases (by by_cases h1 : k = 43; · exact .inl h1
             by_cases h2 : k = 38; · exact .inr (.inl h2)
             exact .inr (.inr ⟨h1, h2⟩) : k = 43 ∨ k = 38 ∨ (k ≠ 43 ∧ k ≠ 38)) with rfl | rfl | ⟨k1, k2⟩
  · rw [show (nx st2).2 = st3 from by rw [← HB.out]; simp [bad]] at M3
    go_wp2_with fail
    refine (ih _ _ _ _ hmu3 M3.mid.rd M3.mid.hb).mono ?_
    rintro e w4 ⟨b2, rfl, hl2, h1, h2, h3⟩
    obtain ⟨M4, FIN⟩ := M3.finish hl2 h1 h2 h3 40
    have HF := Lib.hid FIN
    have M5 := M3.mid.call h1 h2 h3
    clear FIN q0 q1 q2 q3 qf r2 rf
    obtain ⟨q0, q1, q2, q3, qf⟩ := M5.cells
    have ho5 := M5.no.lt
    clear h1 h2 h3 hl2 M3 M5
    go_wp2_with fail
    refine (need_calls 41 M4.rd M4.hb hl).mono ?_
    rintro e w5 ⟨rfl, h1, h2, h3⟩
    have HZ := Lib.hid (HF.out w5 _ h3 h1 h2)
    clear h1 h2 h3 M4 HF q0 q1 q2 q3 qf
    go_wp2_with fail
    go_ret
    exact HZ.out
  · rw [show (nx st2).2 = st3 from by rw [← HB.out]; simp [bad]] at M3
    go_wp2_with fail
    refine (ih _ _ _ _ hmu3 M3.mid.rd M3.mid.hb).mono ?_
    rintro e w4 ⟨b2, rfl, hl2, h1, h2, h3⟩
    obtain ⟨M4, FIN⟩ := M3.finish hl2 h1 h2 h3 40
    have HF := Lib.hid FIN
    have M5 := M3.mid.call h1 h2 h3
    clear FIN q0 q1 q2 q3 qf r2 rf
    obtain ⟨q0, q1, q2, q3, qf⟩ := M5.cells
    have ho5 := M5.no.lt
    clear h1 h2 h3 hl2 M3 M5
    go_wp2_with fail
    refine (need_calls 41 M4.rd M4.hb hl).mono ?_
    rintro e w5 ⟨rfl, h1, h2, h3⟩
    have HZ := Lib.hid (HF.out w5 _ h3 h1 h2)
    clear h1 h2 h3 M4 HF q0 q1 q2 q3 qf
    go_wp2_with fail
    go_ret
    exact HZ.out
  · replace M3 := M3.setBad
    rw [show bad true (nx st2).2 = st3 from by rw [← HB.out]; simp [bad, k1, k2]] at M3
    have e1 : (vl k != 43) = true := ne_vl' k1
    have e2 : (vl k != 38) = true := ne_vl' k2
    go_wp2_with fail
    refine (ih _ _ _ _ hmu3 M3.mid.rd M3.mid.hb).mono ?_
    rintro e w4 ⟨b2, rfl, hl2, h1, h2, h3⟩
    obtain ⟨M4, FIN⟩ := M3.finish hl2 h1 h2 h3 40
    have HF := Lib.hid FIN
    have M5 := M3.mid.call h1 h2 h3
    clear FIN q0 q1 q2 q3 qf r2 rf
    obtain ⟨q0, q1, q2, q3, qf⟩ := M5.cells
    have ho5 := M5.no.lt
    clear h1 h2 h3 hl2 M3 M5
    go_wp2_with fail
    refine (need_calls 41 M4.rd M4.hb hl).mono ?_
    rintro e w5 ⟨rfl, h1, h2, h3⟩
    have HZ := Lib.hid (HF.out w5 _ h3 h1 h2)
    clear h1 h2 h3 M4 HF q0 q1 q2 q3 qf
    go_wp2_with fail
    go_ret
    exact HZ.out

end Go.Proofs.YtjgfgjhaghbehaaGreat.Pterm
namespace Go.Proofs.YtjgfgjhaghbehaaGreat.Pterm
open Go.RowKit Go.Proofs.YtjgfgjhaghbehaaGreatW.PrintWords Go.Proofs.YtjgfgjhaghbehaaGreatW.PrintLast Go.Proofs.YtjgfgjhaghbehaaGreatW.PrintMore
set_option linter.unusedVariables false
set_option linter.unusedSimpArgs false

set_option maxHeartbeats 400000 in
theorem term_zero (n : Nat) (s : List UInt8) (st : St) (w0 w : World) (g : Nat) (hb : st.2 = false) (hc : (nx st).1 = 48) (hl : s.length ≤ 1000000) (hr : RdS w0 w g s st) (hB : Below w0.heap.size w0 w) :
    Calls Tryz.prog 97 #[.pointer (some ⟨g, 0, none⟩)] w (TermPost w0 w g s (.leaf 48 0 0, (nx st).2)) := by
  obtain ⟨c2, f2, hg⟩ := rd_cells hr
  rw [hb] at c2
  clear hb
  have M0 := Mid.start hr hB 106
  have HC := Lib.hid hc; clear hc
  go_enter Tryz.func97, Tryz.ntmps97
  go_wp2_with fail
  refine (next_calls M0.rd M0.hb hl).mono ?_
  rintro e w1 ⟨rfl, h1, h2, h3⟩
  have M1 := M0.call h1 h2 h3
  clear h1 h2 h3 M0 c2 f2
  rw [HC.out]
  go_wp2_with fail
  go_ret
  exact ⟨_, rfl, ⟨Nat.le_refl _, none, 0, M1.no⟩, M1.rd, M1.hb, M1.kp⟩

theorem term_any (s : List UInt8) (hl : s.length ≤ 1000000) (n : Nat) : TermUpto n s := by
  induction n with
  | zero => intro st w0 w g h; omega
  | succ n ih =>
    intro st w0 w g hmu hr hB
    by_cases hb : st.2 = true
    · rw [pT_bad _ hb]; exact term_bad n s st w0 w g hb hr hB
    have hb' : st.2 = false := by simpa using hb
    have hL : Less (nx st).2 st.1.length := nx_less (Nat.le_refl _)
    have hk := mu_step hb' hmu
    have e : pT (n + 1) st = _ := rfl
    by_cases h1 : (nx st).1 = 48
    · rw [show pT (n + 1) st = (.leaf 48 0 0, (nx st).2) from by simp [pT, hb', h1]]
      exact term_zero n s st w0 w g hb' h1 hl hr hB
    by_cases h2 : isLet (nx st).1 = true
    · rw [show pT (n + 1) st = _ from by simp only [pT, hb', Bool.false_eq_true, if_false, h1, h2, if_true]; rfl]
      exact term_letter n s st w0 w g hb' h1 h2 hl hr hB ih _ _ (Less.mu (((hL.nx.bad _).nm).nd _) hk) rfl rfl
    have h2' : isLet (nx st).1 = false := by simpa using h2
    by_cases h3 : (nx st).1 = 126
    · rw [show pT (n + 1) st = _ from by simp only [pT, hb', Bool.false_eq_true, if_false, h1, h2, h3, if_true]; rw [if_neg (by decide), if_neg (by decide)]]
      exact term_tilde n s st w0 w g hb' h3 hl hr hB ih (Less.mu (hL.nd _) hk)
    by_cases h4 : (nx st).1 = 35
    · rw [show pT (n + 1) st = _ from by simp only [pT, hb', Bool.false_eq_true, if_false, h1, h2, h3, h4, if_true]; rw [if_neg (by decide), if_neg (by decide), if_neg (by decide)]]
      exact term_hash n s st w0 w g hb' h4 hl hr hB ih (Less.mu (hL.nm.nd _) hk)
    by_cases h5 : (nx st).1 = 91
    · rw [show pT (n + 1) st = _ from by simp only [pT, hb', Bool.false_eq_true, if_false, h1, h2, h3, h4, h5, if_true]; rw [if_neg (by decide), if_neg (by decide), if_neg (by decide), if_neg (by decide)]]
      exact term_match n s st w0 w g hb' h5 hl hr hB ih _ rfl (Less.mu (((hL.nm.nd _).nm).nd _) hk)
    by_cases h6 : (nx st).1 = 42
    · rw [show pT (n + 1) st = _ from by simp only [pT, hb', Bool.false_eq_true, if_false, h1, h2, h3, h4, h5, h6, if_true]; rw [if_neg (by decide), if_neg (by decide), if_neg (by decide), if_neg (by decide), if_neg (by decide)]]
      exact term_star n s st w0 w g hb' h6 hl hr hB ih (Less.mu hL hk)
    by_cases h7 : (nx st).1 = 40
    · rw [show pT (n + 1) st = _ from by simp only [pT, hb', Bool.false_eq_true, if_false, h1, h2, h3, h4, h5, h6, h7, if_true]; rw [if_neg (by decide), if_neg (by decide), if_neg (by decide), if_neg (by decide), if_neg (by decide), if_neg (by decide)]]
      exact term_paren n s st w0 w g hb' h7 hl hr hB ih _ _ _ _ rfl rfl rfl (Less.mu hL hk) (Less.mu ((((hL.pT n).nx).bad _)) hk)
    · rw [show pT (n + 1) st = _ from by simp only [pT, hb', Bool.false_eq_true, if_false, h1, h2, h3, h4, h5, h6, h7]; rfl]
      exact term_other n s st w0 w g hb' h2' h1 h3 h4 h5 h6 h7 hl hr hB ih (Less.mu (hL.bad true) hk)


theorem RdS.at_end {w0 W : World} {g : Nat} {s : List UInt8} {st : St} (h : RdS w0 W g s st) : W.cell? ⟨g, 1, none⟩ = some (.int .i64 ((s.length - st.1.length : Nat) : Int)) := by
  obtain ⟨pre, hs, h1, h2⟩ := h
  have : s.length - st.1.length = pre.length := by rw [hs]; simp
  rw [this]
  exact blk_cell h1 1

def ParsePost (w : World) (l : List UInt8) (e : Ending) (w' : World) : Prop :=
  ∃ b, e = .returned (.tuple #[.pointer (some ⟨b, 0, none⟩), .bool (parseOk l)]) ∧ Lies w' w.heap.size (parsed l).1 b ∧ Below w.heap.size w w'

set_option maxHeartbeats 1000000 in
theorem parse_calls (l : List UInt8) (hl : l.length ≤ 1000000) (w : World) :
    Calls Tryz.prog 77 #[.string (B l)] w (ParsePost w l) := by
  have hI : IsS120 w (w.alloc (.cells #[.string (B l), .int .i64 ((([] : List UInt8).length : Nat) : Int), .bool false] 120)) w.heap.size (B l) _ false := IsS120.new w w (B l) _ false (Below.refl _ _)
  have hr : RdS w (w.alloc (.cells #[.string (B l), .int .i64 ((([] : List UInt8).length : Nat) : Int), .bool false] 120)) w.heap.size l (l, false) := ⟨[], rfl, hI⟩
  go_enter Tryz.func77, Tryz.ntmps77
  go_wp2_with fail
  refine (term_any l hl (l.length + 2) (l, false) w _ w.heap.size (by simp [mu]) hr (below_alloc (Below.refl _ _) _)).mono ?_
  rintro e w1 ⟨b, rfl, h1, h2, h3, h4⟩
  obtain ⟨q2, _, _⟩ := rd_cells h2
  have q1 := h2.at_end
  have hlen : (parsed l).2.1.length ≤ l.length := pT_len _ _
  have hz : (B l).size = l.length := B_size l
  have FIN : Hid (∀ bb n, bb = parseOk l → ParsePost w l (.returned (.tuple #[.pointer (some ⟨b, 0, none⟩), .bool bb])) (w1.drewN n)) :=
    fun bb n hbb => ⟨b, by rw [hbb], (h1.mono (by simp)).keep fun _ _ _ => rfl, pw_below_drewN h3 n⟩
  change w1.cell? ⟨w.heap.size, 2, none⟩ = some (.bool (parsed l).2.2) at q2
  change w1.cell? ⟨w.heap.size, 1, none⟩ = some (.int .i64 ((l.length - (parsed l).2.1.length : Nat) : Int)) at q1
  clear h1 h2 h3 h4 hI hr
  have HP : Hid (parseOk l = (!(parsed l).2.2 && decide ((parsed l).2.1 = []))) := rfl
  rcases hbad : (parsed l).2.2 with _ | _
  · rw [hbad] at q2 HP
    have HB := Lib.hid hbad
    clear hbad
    by_cases hr : (parsed l).2.1 = []
    · rw [hr] at q1 HP
      clear hr
      simp only [List.length_nil, Nat.sub_zero] at q1
      go_wp2_with fail
      repeat (go_quiet (fail); try go_wp2)
      go_ret2
      exact FIN.out _ _ (by rw [HP.out]; rfl)
    · have hlt : (parsed l).2.1.length ≠ 0 := fun h => hr (List.length_eq_zero_iff.mp h)
      have HR : Hid (decide ((parsed l).2.1 = []) = false) := by simpa [Hid] using hr
      obtain ⟨m, hm⟩ : ∃ m, m = l.length - (parsed l).2.1.length := ⟨_, rfl⟩
      rw [← hm] at q1
      have hm2 : m < l.length := by omega
      have e0 : ((m : Int) == (l.length : Int)) = false := by rw [beq_eq_false_iff_ne]; omega
      clear hm hr hlt
      go_wp2_with fail
      repeat (go_quiet (fail); try go_wp2)
      go_ret2
      exact FIN.out _ _ (by rw [HP.out, HR.out]; rfl)
  · rw [hbad] at q2 HP
    clear hbad
    go_wp2_with fail
    repeat (go_quiet (fail); try go_wp2)
    go_ret2
    exact FIN.out _ _ (by rw [HP.out]; rfl)


def ReadPost (w : World) (l : List UInt8) (e : Ending) (w' : World) : Prop :=
  Below w.heap.size w w' ∧ ∃ p, e = .returned (.tuple #[.pointer p, .bool (readOk l)]) ∧ (readOk l = true → ∃ b, p = some ⟨b, 0, none⟩ ∧ Lies w' w.heap.size (parsed l).1 b)

set_option maxHeartbeats 1000000 in
theorem read_calls (l : List UInt8) (w : World) (hl : l.length ≤ 140737488351232) :
    Calls Tryz.prog 44 #[.string (B l)] w (ReadPost w l) := by
  have hz : (B l).size = l.length := B_size l
  by_cases hlen : l.length ≤ 300
  · have HD : Hid (readOk l = (parseOk l && decide ((parsed l).1.size ≤ 60))) := by simp [Hid, readOk, hlen]
    go_enter Tryz.func44, Tryz.ntmps44
    go_wp2_with fail
    refine (parse_calls l (by omega) w).mono ?_
    rintro e w1 ⟨b, rfl, h1, h2⟩
    rcases hp : parseOk l with _ | _
    · rw [hp] at HD
      clear hp
      go_wp2_with fail
      go_ret2
      exact ⟨h2, _, by rw [HD.out]; rfl, fun h => by rw [HD.out] at h; cases h⟩
    · have hs : (parsed l).1.size ≤ 300 := by
        have := size_le_text (parsed l).1
        rw [← (parse_good hp).1] at this; omega
      rw [hp] at HD
      clear hp
      have FIN : Hid (∀ bb, bb = decide ((parsed l).1.size ≤ 60) → ReadPost w l (.returned (.tuple #[.pointer (some ⟨b, 0, none⟩), .bool bb])) w1) :=
        fun bb hbb => ⟨h2, _, by rw [hbb, HD.out]; rfl, fun _ => ⟨b, rfl, h1⟩⟩
      go_wp2_with fail
      refine (size_any 301 _ _ _ _ (by omega) (by omega) h1).mono ?_
      rintro e w' ⟨rfl, rfl⟩
      clear h1 h2
      go_wp2_with fail
      go_ret2
      exact FIN.out _ (by rw [decide_eq_decide]; omega)
  · have HD : Hid (readOk l = false) := by simp [Hid, readOk, hlen]
    go_enter Tryz.func44, Tryz.ntmps44
    go_wp2_with fail
    go_ret2
    exact ⟨Below.refl _ _, _, by rw [HD.out]; rfl, fun h => by rw [HD.out] at h; cases h⟩

end Go.Proofs.YtjgfgjhaghbehaaGreat.Pterm
