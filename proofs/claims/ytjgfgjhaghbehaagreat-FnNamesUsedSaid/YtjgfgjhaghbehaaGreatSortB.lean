/- Several texts in one.
   The walk of the sorter's walk: what a term asks of the sorts. (Written by gen_sortk.py.)
   The walk of sortsOf. (Written by gen_sorto.py.) -/
import Derived.Test.YtjgfgjhaghbehaaGreatSortA
import Derived.Deep.MidRow
import Derived.Outline
import Derived.Test.YtjgfgjhaghbehaaGreatFreeW
import Derived.Maps.OwnSet
import Derived.Maps.OwnOps
import Derived.Lib.ConvBytes
import Derived.Laws.MakeOwn
namespace Go.Proofs.YtjgfgjhaghbehaaGreat
open Go.RowKit Go.Proofs.YtjgfgjhaghbehaaGreatW.PrintWords Go.Proofs.YtjgfgjhaghbehaaGreatW.PrintLast Go.Proofs.YtjgfgjhaghbehaaGreatW.PrintMore
set_option linter.unusedVariables false
set_option linter.unusedSimpArgs false

def envL (e : UInt8 → Nat) : List Value := (List.range 26).map fun i => Value.int .i64 ((e (letAt i) : Nat) : Int)
def envA (e : UInt8 → Nat) : Array Value := (envL e).toArray
theorem envL_len (e : UInt8 → Nat) : (envL e).length = 26 := by simp [envL]
theorem envA_size (e : UInt8 → Nat) : (envA e).size = 26 := by simp [envA, envL]
theorem envA_get (e : UInt8 → Nat) {i : Nat} (hi : i < 26) : (envA e)[i]? = some (.int .i64 ((e (letAt i) : Nat) : Int)) := by simp [envA, envL, List.getElem?_range hi]
def EnvAt (w : World) (g : Nat) (e : UInt8 → Nat) : Prop := ∃ t, w.heap[g]? = some (.cells (envA e) t (0, 0))
theorem EnvAt.cell {w : World} {g : Nat} {e : UInt8 → Nat} (h : EnvAt w g e) {i : Nat} (hi : i < 26) : w.cell? ⟨g, i, none⟩ = some (.int .i64 ((e (letAt i) : Nat) : Int)) := by
  obtain ⟨t, h⟩ := h; rw [blk_cell h]; exact envA_get e hi
theorem EnvAt.frozen {w : World} {g : Nat} {e : UInt8 → Nat} (h : EnvAt w g e) (i : Nat) : w.frozen? ⟨g, i, none⟩ = false := by obtain ⟨t, h⟩ := h; exact blk_frozen h i
theorem EnvAt.keep {w w' : World} {g : Nat} {e : UInt8 → Nat} (h : EnvAt w g e) (hk : w'.heap[g]? = w.heap[g]?) : EnvAt w' g e := by obtain ⟨t, h⟩ := h; exact ⟨t, hk.trans h⟩
theorem EnvAt.drewN {w : World} {g : Nat} {e : UInt8 → Nat} (h : EnvAt w g e) (m : Nat) : EnvAt (w.drewN m) g e := h.keep rfl
theorem EnvAt.lt {w : World} {g : Nat} {e : UInt8 → Nat} (h : EnvAt w g e) : g < w.heap.size := by obtain ⟨t, h⟩ := h; exact blk_lt h
theorem EnvAt.below {w w' : World} {g : Nat} {e : UInt8 → Nat} (h : EnvAt w g e) (hb : Below w.heap.size w w') : EnvAt w' g e := h.keep (hb.block _ h.lt)
theorem EnvAt.range {w : World} {g : Nat} {e : UInt8 → Nat} (h : EnvAt w g e) : w.rangeAt g 0 (envL e) := fun j v hv => by
  obtain ⟨t, h⟩ := h
  rw [Nat.zero_add, blk_cell h]
  exact (by simpa [envA] using hv)
theorem letAt_same {i j : Nat} (hi : i < 26) (hj : j < 26) : letAt i = letAt j ↔ i = j := ⟨fun h => letAt_inj (by omega) (by omega) h, fun h => by rw [h]⟩
theorem EnvAt.put {w : World} {g : Nat} {e : UInt8 → Nat} (h : EnvAt w g e) {i : Nat} (hi : i < 26) (v : Nat) : EnvAt (w.setCell ⟨g, i, none⟩ (.int .i64 (v : Nat))) g (fun c => if c = letAt i then v else e c) := by
  obtain ⟨t, h⟩ := h
  refine ⟨t, blk_put h i _ ?_⟩
  apply Array.ext
  · simp [envA, envL]
  · intro j h1 h2
    have hj : j < 26 := by simpa [envA, envL] using h2
    rw [Array.getElem_setIfInBounds (by simpa [envA, envL] using hj)]
    simp only [envA, envL, List.getElem_toArray, List.getElem_map, List.getElem_range, letAt_same hj hi]
    by_cases h : i = j
    · subst h; simp
    · rw [if_neg h, if_neg (fun h' => h h'.symm)]
theorem env_new (w : World) (e : UInt8 → Nat) (t : TypeId) : EnvAt (w.alloc (.cells (envA e) t)) w.heap.size e := ⟨t, heap_alloc_new w _⟩

set_option maxHeartbeats 1000000 in
theorem scope_calls {c : UInt8} (hc : isLet c = true) (w : World) (g : Nat) (e : UInt8 → Nat) (h : EnvAt w g e) :
    Calls Tryz.prog 81 #[.int .u8 (vl c), .pointer (some ⟨g, 0, none⟩)] w fun e' w' => e' = .returned (.int .i64 ((e c : Nat) : Int)) ∧ w = w' := by
  obtain ⟨i, hi, hv, rfl⟩ := let_index hc
  have c1 := h.cell hi
  have e1 : ((97 : Int) + i - 97) = i := by omega
  rw [hv]
  clear h hv hc
  go_enter Tryz.func81, Tryz.ntmps81
  go_wp2_with fail
  go_ret
  exact ⟨rfl, rfl⟩

namespace Srt
def walks (l : List Tm) (e : UInt8 → Nat) (s : Srt) : Srt := l.foldl (fun s t => walk t e s) s
theorem walks_take_succ (l : List Tm) (e : UInt8 → Nat) (s : Srt) (i : Nat) (h : i < l.length) : walks (l.take (i + 1)) e s = walk l[i] e (walks (l.take i) e s) := by
  unfold walks; rw [List.take_succ_eq_append_getElem h, List.foldl_append]; rfl
theorem walk_kids {t : Tm} (h : Wf isLet t) (e : UInt8 → Nat) (s : Srt) :
    (t.kind = 33 ∧ isLet t.na = true ∧ isLet t.nb = true ∧ walk t e s = walks t.kids e (s.carry (e t.na) (e t.nb))) ∨
    (t.kind = 61 ∧ isLet t.na = true ∧ isLet t.nb = true ∧ walk t e s = walks t.kids e (s.join (e t.na) (e t.nb))) ∨
    (t.kind = 63 ∧ isLet t.na = true ∧ isLet t.nb = true ∧ walk t e s = walks t.kids (fun c => if c = t.nb then s.n else e c) (s.fresh.carry (e t.na) s.n)) ∨
    (t.kind = 35 ∧ t.na = 0 ∧ isLet t.nb = true ∧ walk t e s = walks t.kids (fun c => if c = t.nb then s.n else e c) s.fresh) ∨
    (t.kind ≠ 33 ∧ t.kind ≠ 61 ∧ t.kind ≠ 63 ∧ t.kind ≠ 35 ∧ t.na = 0 ∧ t.nb = 0 ∧ walk t e s = walks t.kids e s) := by
  cases t with
  | leaf k a b => obtain ⟨rfl, rfl, rfl⟩ := h; exact .inr (.inr (.inr (.inr ⟨by simp [Tm.kind], by simp [Tm.kind], by simp [Tm.kind], by simp [Tm.kind], rfl, rfl, rfl⟩)))
  | un k a b t =>
    rcases h.1 with ⟨hk, ha, hb⟩ | ⟨rfl, rfl, hb⟩ | ⟨hk, rfl, rfl⟩
    · rcases hk with rfl | rfl | rfl
      · exact .inl ⟨rfl, ha, hb, rfl⟩
      · exact .inr (.inr (.inl ⟨rfl, ha, hb, rfl⟩))
      · exact .inr (.inl ⟨rfl, ha, hb, rfl⟩)
    · exact .inr (.inr (.inr (.inl ⟨rfl, rfl, hb, rfl⟩)))
    · rcases hk with rfl | rfl <;> exact .inr (.inr (.inr (.inr ⟨by simp [Tm.kind], by simp [Tm.kind], by simp [Tm.kind], by simp [Tm.kind], rfl, rfl, rfl⟩)))
  | bin k a b t u =>
    obtain ⟨hk, rfl, rfl, _⟩ := h
    rcases hk with rfl | rfl <;> exact .inr (.inr (.inr (.inr ⟨by simp [Tm.kind], by simp [Tm.kind], by simp [Tm.kind], by simp [Tm.kind], rfl, rfl, rfl⟩)))
end Srt
structure WK (w0 w wr : World) (N g E : Nat) (v1 v2 : Value) (ex : List Value) (s : Srt) (e : UInt8 → Nat) : Prop where
  sr : ∃ u1 u2, SrAt wr N g u1 u2 ex s ∧ Fr w g v1 v2 wr u1 u2 ∧ u1.ownBlock ≠ some E ∧ u2.ownBlock ≠ some E
  env : EnvAt wr E e
  below : Below w0.heap.size w0 wr
  nle : N ≤ wr.heap.size
def SwUpto (n : Nat) : Prop := ∀ (t : Tm) (e : UInt8 → Nat) (s : Srt) (w0 w : World) (Nt N g b : Nat) (v1 v2 : Value) (ex : List Value), t.size ≤ n → n ≤ 1000 → Wf isLet t → Lies w0 Nt t b → Below w0.heap.size w0 w → w0.heap.size ≤ g → N ≤ w.heap.size → SrAt w N g v1 v2 ex s → s.Ok → Srt.Sc t.fr e s → s.n + t.size ≤ 1000 →
    Calls Tryz.prog 50 #[.pointer (some ⟨g, 0, none⟩), .pointer (some ⟨b, 0, none⟩), .agg (envA e)] w fun e' w' => e' = .returned (.tuple #[]) ∧ ∃ u1 u2, SrAt w' N g u1 u2 ex (Srt.walk t e s) ∧ Fr w g v1 v2 w' u1 u2
def swalk_.T6 : Bool × List (List Nat × List Nat) := (true, [([], []), ([0], [0]), ([1], [1]), ([2], [2]), ([3], [3]), ([], []), ([5], [5]), ([4, 0, 1, 2, 3, 4, 5, 6], [4]), ([7, 6, 6, 0, 1, 2, 3, 4, 5, 6], [6, 7])])
def swalk_.B6 : List Nat := [0, 1, 3, 7, 15, 0, 32, 127, 255]
theorem swalk_.tab6 : rtab .any (opsOf Tryz.f50 6) = swalk_.T6 := by kernel_rfl
theorem swalk_.bits6 : waitsOk swalk_.T6.2 swalk_.B6 = true := by kernel_rfl
namespace Srt
theorem walks_ok (e : UInt8 → Nat) : ∀ (l : List Tm) (s : Srt), (∀ t, t ∈ l → Wf isLet t) → s.Ok → (∀ t, t ∈ l → Sc t.fr e s) → (walks l e s).Ok ∧ s.n ≤ (walks l e s).n ∧ (walks l e s).n ≤ s.n + sizes l
  | [], s, _, h, _ => ⟨h, Nat.le_refl _, by simp [walks]⟩
  | t :: l, s, hw, h, hs => by
    have h1 := walk_ok t e s (hw t (by simp)) h (hs t (by simp))
    have h2 := walks_ok e l (walk t e s) (fun u hu => hw u (by simp [hu])) h1.1 (fun u hu c hc => by have := hs u (by simp [hu]) c hc; omega)
    have e1 : walks (t :: l) e s = walks l e (walk t e s) := rfl
    have e2 : sizes (t :: l) = t.size + sizes l := by simp [sizes]
    rw [e1, e2]
    exact ⟨h2.1, by omega, by omega⟩
end Srt
theorem mem_kid {t u : Tm} (h : u ∈ t.kids) : ∃ j, ∃ hj : j < t.kids.length, t.kids[j] = u := by
  obtain ⟨j, hj, e⟩ := List.getElem_of_mem h; exact ⟨j, hj, e⟩
theorem kid_wf_mem {P : UInt8 → Bool} {t u : Tm} (h : Wf P t) (hu : u ∈ t.kids) : Wf P u := by
  obtain ⟨j, hj, rfl⟩ := mem_kid hu; exact kid_wf h j hj
theorem kid_frs {t u : Tm} (hu : u ∈ t.kids) {c : UInt8} (hc : u.fr c = true) : frs t.kids c = true := by
  cases t with
  | leaf => simp [Tm.kids] at hu
  | un k a b v => simp [Tm.kids] at hu; subst hu; simpa [frs, Tm.kids, orS, noS] using hc
  | bin k a b v z =>
    simp [Tm.kids] at hu
    rcases hu with rfl | rfl <;> simp [frs, Tm.kids, orS, noS, hc]
theorem sc_plain {t : Tm} (hw : Wf isLet t) (hk : t.kind ≠ 63 ∧ t.kind ≠ 35) {e : UInt8 → Nat} {s s1 : Srt} (h : Srt.Sc t.fr e s) (hn : s.n ≤ s1.n) : ∀ u, u ∈ t.kids → Srt.Sc u.fr e s1 := fun u hu c hc => by
  have h1 := kid_frs hu hc
  have h2 : t.fr c = true := by
    rcases fr_kids hw with ⟨_, _, _, q⟩ | ⟨q, _⟩ | ⟨q, _⟩ | ⟨_, _, _, _, q⟩
    · rw [q]; simp [orS, h1]
    · exact absurd q hk.1
    · exact absurd q hk.2
    · rw [q]; exact h1
  have := h c h2
  omega
theorem sc_bind {t : Tm} (hw : Wf isLet t) (hk : t.kind = 63 ∨ t.kind = 35) {e : UInt8 → Nat} {s s1 : Srt} (h : Srt.Sc t.fr e s) (hn : s.n < s1.n) : ∀ u, u ∈ t.kids → Srt.Sc u.fr (fun c => if c = t.nb then s.n else e c) s1 := fun u hu c hc => by
  have h1 := kid_frs hu hc
  show (if c = t.nb then s.n else e c) < s1.n
  by_cases hcb : c = t.nb
  · rw [if_pos hcb]; exact hn
  · rw [if_neg hcb]
    have h2 : t.fr c = true := by
      rcases fr_kids hw with ⟨q, _⟩ | ⟨_, _, _, q⟩ | ⟨_, _, q⟩ | ⟨_, _, q1, q2, _⟩
      · rcases hk with k | k <;> rw [k] at q <;> rcases q with q | q <;> exact absurd q (by decide)
      · rw [q]; simp [orS, minusS, eqS, h1, hcb]
      · rw [q]; simp [minusS, eqS, h1, hcb]
      · rcases hk with k | k
        · exact absurd k q1
        · exact absurd k q2
    have := h c h2
    omega
theorem na_fr {t : Tm} (hw : Wf isLet t) (hk : t.kind = 33 ∨ t.kind = 61 ∨ t.kind = 63) : t.fr t.na = true := by
  rcases fr_kids hw with ⟨_, _, _, q⟩ | ⟨_, _, _, q⟩ | ⟨q, _⟩ | ⟨q1, q2, q3, _⟩
  · rw [q]; simp [orS, eqS]
  · rw [q]; simp [orS, eqS]
  · rcases hk with k | k | k <;> rw [k] at q <;> exact absurd q (by decide)
  · rcases hk with k | k | k
    · exact absurd k q1
    · exact absurd k q2
    · exact absurd k q3
theorem nb_fr {t : Tm} (hw : Wf isLet t) (hk : t.kind = 33 ∨ t.kind = 61) : t.fr t.nb = true := by
  rcases fr_kids hw with ⟨_, _, _, q⟩ | ⟨q, _⟩ | ⟨q, _⟩ | ⟨q1, q2, _⟩
  · rw [q]; simp [orS, eqS]
  · rcases hk with k | k <;> rw [k] at q <;> exact absurd q (by decide)
  · rcases hk with k | k <;> rw [k] at q <;> exact absurd q (by decide)
  · rcases hk with k | k
    · exact absurd k q1
    · exact absurd k q2
section
variable {w0 w wr w' : World} {N g E : Nat} {v1 v2 u1 u2 x1 x2 : Value} {ex : List Value} {s s' : Srt} {e : UInt8 → Nat}
theorem SrAt.belowOf (h : SrAt wr N g u1 u2 ex s) (hf : Fr wr g u1 u2 w' x1 x2) (hb : Below w0.heap.size w0 wr) (hg : w0.heap.size ≤ g) : Below w0.heap.size w0 w' :=
  hf.below hb hg (fun k hk => by have := (h.r1.own hk).1; have := h.gN; omega) (fun k hk => by have := (h.r2.own hk).1; have := h.gN; omega)
theorem WK.start (h : SrAt w N g v1 v2 ex s) (hb : Below w0.heap.size w0 w) (hN : N ≤ w.heap.size) (e : UInt8 → Nat) (t : TypeId) : WK w0 w (w.alloc (.cells (envA e) t)) N g w.heap.size v1 v2 ex s e :=
  ⟨⟨v1, v2, h.alloc _, Fr.alloc _ _ _ _ _, fun q => by have := (h.r1.own q).2; omega, fun q => by have := (h.r2.own q).2; omega⟩, env_new w e t, hb.alloc hb.size _, by simp; omega⟩
theorem WK.step (h : WK w0 w wr N g E v1 v2 ex s e) (hg : w0.heap.size ≤ g) (hEg : E ≠ g) (hs0 : SrAt wr N g u1 u2 ex s) (hf : Fr w g v1 v2 wr u1 u2) (k1 : u1.ownBlock ≠ some E) (k2 : u2.ownBlock ≠ some E) (hf2 : Fr wr g u1 u2 w' x1 x2) (hs : SrAt w' N g x1 x2 ex s') : WK w0 w w' N g E v1 v2 ex s' e := by
  have hl := h.env.lt
  obtain ⟨a1, a2⟩ := hf2.away hl k1 k2
  exact ⟨⟨x1, x2, hs, hf.trans hf2, a1, a2⟩, h.env.keep (hf2.block _ hl hEg k1 k2), hs0.belowOf hf2 h.below hg, Nat.le_trans h.nle hf2.size⟩
theorem WK.drew (h : WK w0 w wr N g E v1 v2 ex s e) : WK w0 w wr.drew N g E v1 v2 ex s e := by
  obtain ⟨⟨x1, x2, hs, hf, a1, a2⟩, henv, hb, hn⟩ := h
  exact ⟨⟨x1, x2, hs.drewN 1, hf.trans (Fr.drewN _ _ _ _ 1), a1, a2⟩, henv.drewN 1, pw_below_drewN hb 1, hn⟩
theorem WK.put (h : WK w0 w wr N g E v1 v2 ex s e) (hE : w.heap.size ≤ E) (hE0 : w0.heap.size ≤ E) (hEg : E ≠ g) {i : Nat} (hi : i < 26) (v : Nat) : WK w0 w (wr.setCell ⟨E, i, none⟩ (.int .i64 (v : Nat))) N g E v1 v2 ex s (fun c => if c = letAt i then v else e c) := by
  obtain ⟨⟨x1, x2, hs, hf, a1, a2⟩, henv, hb, hn⟩ := h
  exact ⟨⟨x1, x2, hs.far hEg a1 a2 _ _, hf.put hE _ _, a1, a2⟩, henv.put hi v, hb.setCell hE0 _, by simpa [World.setCell] using hn⟩
end
set_option maxHeartbeats 4000000 in
set_option maxRecDepth 100000 in
theorem swalk_any (n : Nat) : SwUpto n := by
  induction n with
  | zero => intro t e s w0 w Nt N g b v1 v2 ex h; have := t.size_pos; omega
  | succ n ih =>
    intro t e s w0 w Nt N g b v1 v2 ex hs hn hw hl hb hg hN hsr hok hsc hbd
    obtain ⟨o, cap, c0, c1, c2, c3, hk⟩ := hl.at
    have hbx : b < w0.heap.size := hl.lt
    have hlen : t.kids.length ≤ 2 := by cases t <;> simp [Tm.kids]
    have hz1 := envA_size e
    have C0 := Lib.hid c0
    have C1 := Lib.hid c1
    have C2 := Lib.hid c2
    have C3 := Lib.hid c3
    have HK := Lib.hid hk
    have HL := Lib.hid hl
    have HW := Lib.hid hw
    have HB := Lib.hid hb
    have HS := Lib.hid hsr
    have HO := Lib.hid hok
    have HSC := Lib.hid hsc
    have HG : Hid (w0.heap.size ≤ g ∧ N ≤ w.heap.size) := ⟨hg, hN⟩
    have HM : Hid (s.n ≤ 1000000) := by show _ ≤ _; omega
    have HX : Hid (w.heap.size ≠ g ∧ v1.ownBlock ≠ some w.heap.size ∧ v2.ownBlock ≠ some w.heap.size ∧ w0.heap.size ≤ w.heap.size) := ⟨by have := hsr.gl; omega, fun q => by have := (hsr.r1.own q).2; omega, fun q => by have := (hsr.r2.own q).2; omega, hb.size⟩
    have hszk := sizes_kids t
    have HBD : Hid (s.n + 1 + sizes t.kids ≤ 1000) := by show _ ≤ _; omega
    have q33 := eq_vl (x := t.kind) 33
    have q61 := eq_vl (x := t.kind) 61
    have q63 := eq_vl (x := t.kind) 63
    have p1 : vl 33 = 33 := rfl
    have p2 : vl 61 = 61 := rfl
    have p3 : vl 63 = 63 := rfl
    rw [p1] at q33
    rw [p2] at q61
    rw [p3] at q63
    have HCASE := Lib.hid (Srt.walk_kids hw e s)
    clear c0 c1 c2 c3 hk hl hw hb hsr hok hsc hg hN p1 p2 p3 hbd hszk
    rcases HCASE.out with ⟨hkd, a1, a2, hv⟩ | ⟨hkd, a1, a2, hv⟩ | ⟨hkd, a1, a2, hv⟩ | ⟨hkd, a1, a2, hv⟩ | ⟨k1, k2, k3, k4, a1, a2, hv⟩
    · have HV := Lib.hid hv
      have A1 := Lib.hid a1
      have A2 := Lib.hid a2
      have hna : (vl t.na != 0) = true := by obtain ⟨i, _, h, _⟩ := let_index a1; rw [bne_iff_ne]; omega
      have hbi : bindsB t.kind = false := by rw [hkd]; rfl
      rw [decide_eq_true hkd] at q33
      have e1 : e t.na < s.n := HSC.out _ (na_fr HW.out (.inl hkd))
      have e2 : e t.nb < s.n := HSC.out _ (nb_fr HW.out (.inl hkd))
      have H1 : Hid (s.carry (e t.na) (e t.nb)).Ok := HO.out.carry e1 e2
      have H2 : Hid (∀ u, u ∈ t.kids → Srt.Sc u.fr e (s.carry (e t.na) (e t.nb))) := sc_plain HW.out ⟨by rw [hkd]; decide, by rw [hkd]; decide⟩ HSC.out (by rw [Srt.carry_n]; omega)
      have H3 : Hid ((s.carry (e t.na) (e t.nb)).n + sizes t.kids ≤ 1000) := by show _ ≤ _; rw [Srt.carry_n]; have := HBD.out; omega
      go_enter Tryz.func50, Tryz.ntmps50
      go_upto_region 1 with fail
      obtain ⟨W2, hW2⟩ : ∃ W2, W2 = w.alloc (.cells (envA e) 73) := ⟨_, rfl⟩
      rw [← hW2]
      have HT : Hid (SrAt W2 N g v1 v2 ex s ∧ Below w0.heap.size w0 W2 ∧ N ≤ W2.heap.size) := by rw [hW2]; exact ⟨HS.out.alloc _, HB.out.alloc HB.out.size _, by have := HG.out.2; simp; omega⟩
      have HE : Hid (EnvAt W2 w.heap.size e) := by rw [hW2]; exact env_new w e _
      have HF : Hid (Fr w g v1 v2 W2 v1 v2) := by rw [hW2]; exact Fr.alloc _ _ _ _ _
      have HKS : Hid (WK w0 w W2 N g w.heap.size v1 v2 ex s e) := by rw [hW2]; exact WK.start HS.out HB.out HG.out.2 e _
      clear hW2
      have d0 := (HT.out.2.1.cell hbx).trans C0.out
      have d1 := (HT.out.2.1.cell hbx).trans C1.out
      have d2 := (HT.out.2.1.cell hbx).trans C2.out
      have d3 := (HT.out.2.1.cell hbx).trans C3.out
      have hbc := binds_calls t.kind b W2 d0
      rw [hbi] at hbc
      clear hkd hv a1 a2 hbi q61 q63 HCASE
      go_wp2_with fail
      refine (scope_calls A1.out _ _ _ HE.out).mono ?_
      rintro e' w' ⟨rfl, rfl⟩
      go_wp2_with fail
      refine hbc.mono ?_
      rintro e' w' ⟨rfl, rfl⟩
      clear hbc
      go_wp2_with fail
      refine (scope_calls A2.out _ _ _ HE.out).mono ?_
      rintro e' w' ⟨rfl, rfl⟩
      go_wp2_with fail
      refine (carry_calls HT.out.1 HO.out e1 e2 HM.out).mono ?_
      rintro e' W3 ⟨rfl, S3, F3⟩
      have K := HKS.out.step HG.out.1 HX.out.1 HT.out.1 HF.out HX.out.2.1 HX.out.2.2.1 F3 S3
      clear S3 F3
      have HRR : Hid (∀ j, (Srt.walks (t.kids.take j) e (s.carry (e t.na) (e t.nb))).Ok ∧ ((s.carry (e t.na) (e t.nb))).n ≤ (Srt.walks (t.kids.take j) e (s.carry (e t.na) (e t.nb))).n ∧ (Srt.walks (t.kids.take j) e (s.carry (e t.na) (e t.nb))).n ≤ ((s.carry (e t.na) (e t.nb))).n + sizes (t.kids.take j)) := fun j => Srt.walks_ok e (t.kids.take j) (s.carry (e t.na) (e t.nb)) (fun u hu => kid_wf_mem HW.out (List.mem_of_mem_take hu)) H1.out (fun u hu => H2.out u (List.mem_of_mem_take hu))
      have d3' := (K.below.cell hbx).trans C3.out
      have HK0 := Lib.hid K
      clear K d0 d1 d2 d3
      go_wp2_with fail
      go_loopw [64] (fun i wr => ∃ j : Nat, j ≤ t.kids.length ∧ i = .int .i64 j ∧ WK w0 w wr N g w.heap.size v1 v2 ex (Srt.walks (t.kids.take j) e (s.carry (e t.na) (e t.nb))) e) (fun i _ => t.kids.length - (intOf i).toNat)
      case atStart => exact ⟨0, Nat.zero_le _, rfl, HK0.out⟩
      case round =>
        obtain ⟨j, hj, rfl, hr⟩ := hrel
        have HR := Lib.hid hr
        clear hr
        by_cases hlt : j < t.kids.length
        · obtain ⟨rr, y, rfl, hc, hy⟩ := HK.out j hlt
          have hc2 := (HR.out.below.cell (World.block_lt_of_cell? w0 _ hc)).trans hc
          have h1 := Lib.hid (Srt.walks_take_succ t.kids e (s.carry (e t.na) (e t.nb)) j hlt)
          have h2 := kid_le t j hlt
          have h3 := sizes_take_succ t.kids j hlt
          have h4 := sizes_take_le t.kids (j + 1)
          have h5 := sizes_kids t
          have hlt4 : (j : Int) < (t.kids.length : Int) := by omega
          have hU := Tryz.underlying73
          have hI : (Tryz.prog.info? 73).map (·.size) = some (envL e).length := by rw [envL_len]; kernel_rfl
          obtain ⟨u1, u2, hsr, hfr, hk1, hk2⟩ := HR.out.sr
          have HST : Hid (∀ W5 x1 x2 s', Fr wr g u1 u2 W5 x1 x2 → SrAt W5 N g x1 x2 ex s' → WK w0 w W5 N g w.heap.size v1 v2 ex s' e) := fun W5 x1 x2 s' f5 s5 => HR.out.step HG.out.1 HX.out.1 hsr hfr hk1 hk2 f5 s5
          have hrec := ih t.kids[j] e (Srt.walks (t.kids.take j) e (s.carry (e t.na) (e t.nb))) w0 wr Nt N g y u1 u2 ex (by omega) (by omega) (kid_wf HW.out j hlt) hy HR.out.below HG.out.1 HR.out.nle hsr (HRR.out j).1 (fun c hc => by have := H2.out _ (List.getElem_mem hlt) c hc; have := (HRR.out j).2.1; omega) (by have := (HRR.out j).2.2; have := H3.out; omega)
          clear h3 h4 h5 hc hy hsr hfr hk1 hk2
          go_wp2_with (first | ((with_reducible refine gate_dst (N := 70) rfl ?_); refine wpList_load_mid (by rfl) 73 (.tmp 5) (by rfl) w.heap.size 0 (by rfl) (envL e) _ HR.out.env.range hU rfl hI ?_))
          refine hrec.mono ?_
          rintro e' W5 ⟨rfl, x1, x2, S5, F5⟩
          have HN : Hid (WK w0 w W5 N g w.heap.size v1 v2 ex (Srt.walks (t.kids.take (j + 1)) e (s.carry (e t.na) (e t.nb))) e) := by
            rw [h1.out]
            exact HST.out _ _ _ _ F5 S5
          clear hrec S5 F5 hc2 hU hI HST
          go_wp2_with fail
          go_roundw
          case rel => exact ⟨j + 1, by omega, by go_num, HN.out⟩
          case measure => simp [intOf]; omega
        · have HFI := Lib.hid (congrArg (fun l => Srt.walks l e (s.carry (e t.na) (e t.nb))) (List.take_of_length_le (by omega : t.kids.length ≤ j)))
          go_wp2_with fail
          go_end0
          obtain ⟨x1, x2, S6, F6, _, _⟩ := HR.out.sr
          exact ⟨rfl, x1, x2, by rw [HV.out, ← HFI.out]; exact S6, F6⟩
    · have HV := Lib.hid hv
      have A1 := Lib.hid a1
      have A2 := Lib.hid a2
      have hna : (vl t.na != 0) = true := by obtain ⟨i, _, h, _⟩ := let_index a1; rw [bne_iff_ne]; omega
      have hbi : bindsB t.kind = false := by rw [hkd]; rfl
      rw [decide_eq_true hkd] at q61
      rw [decide_eq_false (by rw [hkd]; decide)] at q33
      rw [decide_eq_false (by rw [hkd]; decide)] at q63
      have e1 : e t.na < s.n := HSC.out _ (na_fr HW.out (.inr (.inl hkd)))
      have e2 : e t.nb < s.n := HSC.out _ (nb_fr HW.out (.inr hkd))
      have H1 : Hid (s.join (e t.na) (e t.nb)).Ok := HO.out.join e1 e2
      have H2 : Hid (∀ u, u ∈ t.kids → Srt.Sc u.fr e (s.join (e t.na) (e t.nb))) := sc_plain HW.out ⟨by rw [hkd]; decide, by rw [hkd]; decide⟩ HSC.out (by rw [Srt.join_n]; omega)
      have H3 : Hid ((s.join (e t.na) (e t.nb)).n + sizes t.kids ≤ 1000) := by show _ ≤ _; rw [Srt.join_n]; have := HBD.out; omega
      go_enter Tryz.func50, Tryz.ntmps50
      go_upto_region 1 with fail
      obtain ⟨W2, hW2⟩ : ∃ W2, W2 = w.alloc (.cells (envA e) 73) := ⟨_, rfl⟩
      rw [← hW2]
      have HT : Hid (SrAt W2 N g v1 v2 ex s ∧ Below w0.heap.size w0 W2 ∧ N ≤ W2.heap.size) := by rw [hW2]; exact ⟨HS.out.alloc _, HB.out.alloc HB.out.size _, by have := HG.out.2; simp; omega⟩
      have HE : Hid (EnvAt W2 w.heap.size e) := by rw [hW2]; exact env_new w e _
      have HF : Hid (Fr w g v1 v2 W2 v1 v2) := by rw [hW2]; exact Fr.alloc _ _ _ _ _
      have HKS : Hid (WK w0 w W2 N g w.heap.size v1 v2 ex s e) := by rw [hW2]; exact WK.start HS.out HB.out HG.out.2 e _
      clear hW2
      have d0 := (HT.out.2.1.cell hbx).trans C0.out
      have d1 := (HT.out.2.1.cell hbx).trans C1.out
      have d2 := (HT.out.2.1.cell hbx).trans C2.out
      have d3 := (HT.out.2.1.cell hbx).trans C3.out
      have hbc := binds_calls t.kind b W2 d0
      rw [hbi] at hbc
      clear hkd hv a1 a2 hbi HCASE
      go_wp2_with fail
      refine (scope_calls A1.out _ _ _ HE.out).mono ?_
      rintro e' w' ⟨rfl, rfl⟩
      go_wp2_with fail
      refine hbc.mono ?_
      rintro e' w' ⟨rfl, rfl⟩
      clear hbc
      go_wp2_with fail
      refine (scope_calls A2.out _ _ _ HE.out).mono ?_
      rintro e' w' ⟨rfl, rfl⟩
      go_wp2_with fail
      refine (join_calls HT.out.1 HO.out e1 e2 HM.out).mono ?_
      rintro e' W3 ⟨rfl, S3, F3⟩
      have K := HKS.out.step HG.out.1 HX.out.1 HT.out.1 HF.out HX.out.2.1 HX.out.2.2.1 F3 S3
      clear S3 F3
      have HRR : Hid (∀ j, (Srt.walks (t.kids.take j) e (s.join (e t.na) (e t.nb))).Ok ∧ ((s.join (e t.na) (e t.nb))).n ≤ (Srt.walks (t.kids.take j) e (s.join (e t.na) (e t.nb))).n ∧ (Srt.walks (t.kids.take j) e (s.join (e t.na) (e t.nb))).n ≤ ((s.join (e t.na) (e t.nb))).n + sizes (t.kids.take j)) := fun j => Srt.walks_ok e (t.kids.take j) (s.join (e t.na) (e t.nb)) (fun u hu => kid_wf_mem HW.out (List.mem_of_mem_take hu)) H1.out (fun u hu => H2.out u (List.mem_of_mem_take hu))
      have d3' := (K.below.cell hbx).trans C3.out
      have HK0 := Lib.hid K
      clear K d0 d1 d2 d3
      go_wp2_with fail
      go_loopw [64] (fun i wr => ∃ j : Nat, j ≤ t.kids.length ∧ i = .int .i64 j ∧ WK w0 w wr N g w.heap.size v1 v2 ex (Srt.walks (t.kids.take j) e (s.join (e t.na) (e t.nb))) e) (fun i _ => t.kids.length - (intOf i).toNat)
      case atStart => exact ⟨0, Nat.zero_le _, rfl, HK0.out⟩
      case round =>
        obtain ⟨j, hj, rfl, hr⟩ := hrel
        have HR := Lib.hid hr
        clear hr
        by_cases hlt : j < t.kids.length
        · obtain ⟨rr, y, rfl, hc, hy⟩ := HK.out j hlt
          have hc2 := (HR.out.below.cell (World.block_lt_of_cell? w0 _ hc)).trans hc
          have h1 := Lib.hid (Srt.walks_take_succ t.kids e (s.join (e t.na) (e t.nb)) j hlt)
          have h2 := kid_le t j hlt
          have h3 := sizes_take_succ t.kids j hlt
          have h4 := sizes_take_le t.kids (j + 1)
          have h5 := sizes_kids t
          have hlt4 : (j : Int) < (t.kids.length : Int) := by omega
          have hU := Tryz.underlying73
          have hI : (Tryz.prog.info? 73).map (·.size) = some (envL e).length := by rw [envL_len]; kernel_rfl
          obtain ⟨u1, u2, hsr, hfr, hk1, hk2⟩ := HR.out.sr
          have HST : Hid (∀ W5 x1 x2 s', Fr wr g u1 u2 W5 x1 x2 → SrAt W5 N g x1 x2 ex s' → WK w0 w W5 N g w.heap.size v1 v2 ex s' e) := fun W5 x1 x2 s' f5 s5 => HR.out.step HG.out.1 HX.out.1 hsr hfr hk1 hk2 f5 s5
          have hrec := ih t.kids[j] e (Srt.walks (t.kids.take j) e (s.join (e t.na) (e t.nb))) w0 wr Nt N g y u1 u2 ex (by omega) (by omega) (kid_wf HW.out j hlt) hy HR.out.below HG.out.1 HR.out.nle hsr (HRR.out j).1 (fun c hc => by have := H2.out _ (List.getElem_mem hlt) c hc; have := (HRR.out j).2.1; omega) (by have := (HRR.out j).2.2; have := H3.out; omega)
          clear h3 h4 h5 hc hy hsr hfr hk1 hk2
          go_wp2_with (first | ((with_reducible refine gate_dst (N := 70) rfl ?_); refine wpList_load_mid (by rfl) 73 (.tmp 5) (by rfl) w.heap.size 0 (by rfl) (envL e) _ HR.out.env.range hU rfl hI ?_))
          refine hrec.mono ?_
          rintro e' W5 ⟨rfl, x1, x2, S5, F5⟩
          have HN : Hid (WK w0 w W5 N g w.heap.size v1 v2 ex (Srt.walks (t.kids.take (j + 1)) e (s.join (e t.na) (e t.nb))) e) := by
            rw [h1.out]
            exact HST.out _ _ _ _ F5 S5
          clear hrec S5 F5 hc2 hU hI HST
          go_wp2_with fail
          go_roundw
          case rel => exact ⟨j + 1, by omega, by go_num, HN.out⟩
          case measure => simp [intOf]; omega
        · have HFI := Lib.hid (congrArg (fun l => Srt.walks l e (s.join (e t.na) (e t.nb))) (List.take_of_length_le (by omega : t.kids.length ≤ j)))
          go_wp2_with fail
          go_end0
          obtain ⟨x1, x2, S6, F6, _, _⟩ := HR.out.sr
          exact ⟨rfl, x1, x2, by rw [HV.out, ← HFI.out]; exact S6, F6⟩
    · have HV := Lib.hid hv
      have A1 := Lib.hid a1
      have A2 := Lib.hid a2
      have hna : (vl t.na != 0) = true := by obtain ⟨i, _, h, _⟩ := let_index a1; rw [bne_iff_ne]; omega
      have hbi : bindsB t.kind = true := by rw [hkd]; rfl
      rw [decide_eq_true hkd] at q63
      rw [decide_eq_false (by rw [hkd]; decide)] at q33
      have e1 : e t.na < s.n := HSC.out _ (na_fr HW.out (.inr (.inr hkd)))
      have H1 : Hid (s.fresh.carry (e t.na) s.n).Ok := HO.out.fresh.carry (show _ < s.n + 1 by omega) (show _ < s.n + 1 by omega)
      have H2 : Hid (∀ u, u ∈ t.kids → Srt.Sc u.fr (fun c => if c = t.nb then s.n else e c) (s.fresh.carry (e t.na) s.n)) := sc_bind HW.out (.inl hkd) HSC.out (by rw [Srt.carry_n]; exact Nat.lt_succ_self _)
      have H3 : Hid ((s.fresh.carry (e t.na) s.n).n + sizes t.kids ≤ 1000) := by show _ ≤ _; rw [Srt.carry_n]; have := HBD.out; show s.n + 1 + _ ≤ _; omega
      go_enter Tryz.func50, Tryz.ntmps50
      go_upto_region 1 with fail
      obtain ⟨W2, hW2⟩ : ∃ W2, W2 = w.alloc (.cells (envA e) 73) := ⟨_, rfl⟩
      rw [← hW2]
      have HT : Hid (SrAt W2 N g v1 v2 ex s ∧ Below w0.heap.size w0 W2 ∧ N ≤ W2.heap.size) := by rw [hW2]; exact ⟨HS.out.alloc _, HB.out.alloc HB.out.size _, by have := HG.out.2; simp; omega⟩
      have HE : Hid (EnvAt W2 w.heap.size e) := by rw [hW2]; exact env_new w e _
      have HF : Hid (Fr w g v1 v2 W2 v1 v2) := by rw [hW2]; exact Fr.alloc _ _ _ _ _
      have HKS : Hid (WK w0 w W2 N g w.heap.size v1 v2 ex s e) := by rw [hW2]; exact WK.start HS.out HB.out HG.out.2 e _
      clear hW2
      have d0 := (HT.out.2.1.cell hbx).trans C0.out
      have d1 := (HT.out.2.1.cell hbx).trans C1.out
      have d2 := (HT.out.2.1.cell hbx).trans C2.out
      have d3 := (HT.out.2.1.cell hbx).trans C3.out
      have hbc := binds_calls t.kind b W2 d0
      rw [hbi] at hbc
      obtain ⟨i, hi, hvi, hti⟩ := let_index a2
      have CB : Hid (w0.cell? ⟨b, 2, none⟩ = some (.int .u8 (97 + (i : Nat)))) := by rw [Hid, ← hvi]; exact C2.out
      have HTI := Lib.hid hti
      clear hkd hv a1 a2 hbi q61 HCASE hti
      go_wp2_with fail
      refine (scope_calls A1.out _ _ _ HE.out).mono ?_
      rintro e' w' ⟨rfl, rfl⟩
      go_wp2_with fail
      refine hbc.mono ?_
      rintro e' w' ⟨rfl, rfl⟩
      clear hbc
      go_wp2_with fail
      rw [hvi] at d2
      have e97 : ((97 : Int) + (i : Nat) - 97) = (i : Nat) := by omega
      have e98 : IntKind.u8.wrap ((i : Nat) : Int) = (i : Nat) := by rw [IntKind.wrap_u8]; omega
      have e99 : ((i : Nat) : Int) < 26 := by omega
      clear hvi d0 d1 d3
      refine start_ (n := 9) (S := fun w' => w'.cell? ⟨b, 2, none⟩ = some (.int .u8 (97 + (i : Nat)))) (ds := [8]) #[false, false, false, false, false, false, false, false, false] (by kernel_rfl) rfl rfl (d2) (fun hHeld => ?_)
      refine with_tabW swalk_.tab6 swalk_.bits6 (fun HT_ HW_ => ?_)
      have T : SrAt W2.drew N g v1 v2 ex s ∧ Below w0.heap.size w0 W2.drew ∧ N ≤ W2.drew.heap.size ∧ WK w0 w W2.drew N g w.heap.size v1 v2 ex s e ∧ Fr w g v1 v2 W2.drew v1 v2 := ⟨HT.out.1.drewN 1, pw_below_drewN HT.out.2.1 1, HT.out.2.2, HKS.out.drew, HF.out.trans (Fr.drewN _ _ _ _ 1)⟩
      generalize W2.drew = W3 at T hHeld ⊢
      refine pure_ (i := 0) (N := some 24) (v := ?_) (a' := ?_) #[true, false, false, false, false, false, false, false, false] rfl rfl (any_of HT_.out (by kernel_rfl)) (fun _ _ _ h => h) (Or.inl ⟨by rfl, ?_⟩) ?_ ?_
      rotate_left; (intro w'; go_simp; with_reducible rfl); rotate_left; (simp only [Act.put, List.setIfInBounds_toArray, List.set_cons_zero, List.set_cons_succ, i64_w, i32_w]; rfl)
      refine pure_ (i := 1) (N := some 25) (v := ?_) (a' := ?_) #[true, true, false, false, false, false, false, false, false] rfl rfl (any_of HT_.out (by kernel_rfl)) (fun _ _ _ h => h) (Or.inl ⟨by rfl, ?_⟩) ?_ ?_
      rotate_left; (intro w'; go_simp; with_reducible rfl); rotate_left; (simp only [Act.put, List.setIfInBounds_toArray, List.set_cons_zero, List.set_cons_succ, i64_w, i32_w]; rfl)
      refine pure_ (i := 2) (N := some 26) (v := ?_) (a' := ?_) #[true, true, true, false, false, false, false, false, false] rfl rfl (any_of HT_.out (by kernel_rfl)) (fun _ _ _ h => h) (Or.inl ⟨by rfl, ?_⟩) ?_ ?_
      rotate_left; (intro w'; go_simp; with_reducible rfl); rotate_left; (simp only [Act.put, List.setIfInBounds_toArray, List.set_cons_zero, List.set_cons_succ, i64_w, i32_w]; rfl)
      refine pure_ (i := 5) (N := some 29) (v := ?_) (a' := ?_) #[true, true, true, false, false, true, false, false, false] rfl rfl (any_of HT_.out (by kernel_rfl)) (fun _ _ _ h => h) (Or.inl ⟨by rfl, ?_⟩) ?_ ?_
      rotate_left; (intro w'; go_simp; with_reducible rfl); rotate_left; (simp only [Act.put, List.setIfInBounds_toArray, List.set_cons_zero, List.set_cons_succ, i64_w, i32_w]; rfl)
      refine take_ (i := 3) (N := some 27) (v := ?_) (a' := ?_) #[true, true, true, true, false, true, false, false, false] rfl rfl (take_ofW HT_.out HW_.out (by kernel_rfl)) (fun _ _ _ h => h) (Or.inl ⟨by rfl, ?_⟩) hHeld ?_ ?_
      rotate_left; (intro w' s0; go_simp; with_reducible rfl); rotate_left; (simp only [Act.put, List.setIfInBounds_toArray, List.set_cons_zero, List.set_cons_succ, i64_w, i32_w]; rfl)
      refine pure_ (i := 4) (N := some 28) (v := ?_) (a' := ?_) #[true, true, true, true, true, true, false, false, false] rfl rfl (any_of HT_.out (by kernel_rfl)) (fun _ _ _ h => h) (Or.inl ⟨by rfl, ?_⟩) ?_ ?_
      rotate_left; (intro w'; go_simp; with_reducible rfl); rotate_left; (simp only [Act.put, List.setIfInBounds_toArray, List.set_cons_zero, List.set_cons_succ, i64_w, i32_w]; rfl)
      refine one_ (i := 6) (N := some 30) #[true, true, true, true, true, true, true, false, false] rfl rfl (one_of HT_.out (by kernel_rfl)) (by decide) (fun K hK => ?_)
      refine goes_ Tryz.func49 (by kernel_rfl) rfl #[.pointer (some ⟨g, 0, none⟩)] (by rfl) rfl rfl (by simp only [List.map_toArray, List.map_cons, List.map_nil]; rfl) ?_
      with_reducible refine (new_calls T.1 HM.out T.2.2.1).mono ?_
      rintro e W4 ⟨u1, u2, rfl, S1, F1⟩
      refine ⟨_, rfl, ?_⟩
      have K4 := T.2.2.2.1.step HG.out.1 HX.out.1 T.1 T.2.2.2.2 HX.out.2.1 HX.out.2.2.1 F1 S1
      have HK4 := Lib.hid K4
      have k0 := K4.env.cell hi
      have z0 := K4.env.frozen i
      have hp0 := (K4.below.cell HL.out.lt).trans CB.out
      clear T K4 S1 F1
      refine hK.out _ _ (hp0) (fun hHeld => ?_)
      clear hK K
      refine norm_ (a' := ?_) ?_ ?_
      rotate_left
      · show Act.put _ (some 30) _ = _
        simp only [Act.put, List.setIfInBounds_toArray, List.set_cons_zero, List.set_cons_succ, i64_w, i32_w]
        rfl
      refine pure_ (i := 7) (N := some 31) (v := ?_) (a' := ?_) #[true, true, true, true, true, true, true, true, false] rfl rfl (any_of HT_.out (by kernel_rfl)) (fun _ _ _ h => h) (Or.inl ⟨by rfl, ?_⟩) ?_ ?_
      rotate_left; (intro w'; go_simp; with_reducible rfl); rotate_left; (simp only [Act.put, List.setIfInBounds_toArray, List.set_cons_zero, List.set_cons_succ, i64_w, i32_w]; rfl)
      refine last_ (i := 8) (N := none) #[true, true, true, true, true, true, true, true, true] rfl rfl (one_of HT_.out (by kernel_rfl)) (by decide) (fun K hK => ?_)
      clear hp0 hHeld
      refine skip_ (w1 := ?_) (by rfl) rfl ?_ ?_
      rotate_left
      · go_simp
        rfl
      refine hK.out _ _ ?_
      clear hK K
      refine done_ (done_of HT_.out (by kernel_rfl)) ?_
      have K5 := HK4.out.put (Nat.le_refl _) HX.out.2.2.2 HX.out.1 hi s.n
      rw [← HTI.out] at K5
      obtain ⟨W5, hW5⟩ : ∃ W5, W5 = W4.setCell ⟨w.heap.size, i, none⟩ (.int .i64 (s.n : Nat)) := ⟨_, rfl⟩
      rw [← hW5] at K5 ⊢
      clear hW5 k0 z0 e97 e98 e99 d2
      obtain ⟨y1, y2, S5, F5, m1, m2⟩ := K5.sr
      have HK5 := Lib.hid K5
      have HS5 := Lib.hid S5
      have HF5 : Hid (Fr w g v1 v2 W5 y1 y2 ∧ y1.ownBlock ≠ some w.heap.size ∧ y2.ownBlock ≠ some w.heap.size) := ⟨F5, m1, m2⟩
      have d0 := (K5.below.cell hbx).trans C0.out
      have d1 := (K5.below.cell hbx).trans C1.out
      have d2 := (K5.below.cell hbx).trans C2.out
      have d3 := (K5.below.cell hbx).trans C3.out
      have hsc2 := scope_calls A2.out W5 _ _ K5.env
      rw [if_pos rfl] at hsc2
      clear K5 S5 F5 m1 m2
      go_wp2_with fail
      refine hsc2.mono ?_
      rintro e' w' ⟨rfl, rfl⟩
      clear hsc2
      go_wp2_with fail
      refine (carry_calls HS5.out HO.out.fresh (show e t.na < s.n + 1 by omega) (show s.n < s.n + 1 by omega) (show s.n + 1 ≤ 1000000 by have := HBD.out; omega)).mono ?_
      rintro e' W3 ⟨rfl, S3, F3⟩
      have K := HK5.out.step HG.out.1 HX.out.1 HS5.out HF5.out.1 HF5.out.2.1 HF5.out.2.2 F3 S3
      clear S3 F3
      have HRR : Hid (∀ j, (Srt.walks (t.kids.take j) (fun c => if c = t.nb then s.n else e c) (s.fresh.carry (e t.na) s.n)).Ok ∧ ((s.fresh.carry (e t.na) s.n)).n ≤ (Srt.walks (t.kids.take j) (fun c => if c = t.nb then s.n else e c) (s.fresh.carry (e t.na) s.n)).n ∧ (Srt.walks (t.kids.take j) (fun c => if c = t.nb then s.n else e c) (s.fresh.carry (e t.na) s.n)).n ≤ ((s.fresh.carry (e t.na) s.n)).n + sizes (t.kids.take j)) := fun j => Srt.walks_ok (fun c => if c = t.nb then s.n else e c) (t.kids.take j) (s.fresh.carry (e t.na) s.n) (fun u hu => kid_wf_mem HW.out (List.mem_of_mem_take hu)) H1.out (fun u hu => H2.out u (List.mem_of_mem_take hu))
      have d3' := (K.below.cell hbx).trans C3.out
      have HK0 := Lib.hid K
      clear K d0 d1 d2 d3
      go_wp2_with fail
      go_loopw [64] (fun i wr => ∃ j : Nat, j ≤ t.kids.length ∧ i = .int .i64 j ∧ WK w0 w wr N g w.heap.size v1 v2 ex (Srt.walks (t.kids.take j) (fun c => if c = t.nb then s.n else e c) (s.fresh.carry (e t.na) s.n)) (fun c => if c = t.nb then s.n else e c)) (fun i _ => t.kids.length - (intOf i).toNat)
      case atStart => exact ⟨0, Nat.zero_le _, rfl, HK0.out⟩
      case round =>
        obtain ⟨j, hj, rfl, hr⟩ := hrel
        have HR := Lib.hid hr
        clear hr
        by_cases hlt : j < t.kids.length
        · obtain ⟨rr, y, rfl, hc, hy⟩ := HK.out j hlt
          have hc2 := (HR.out.below.cell (World.block_lt_of_cell? w0 _ hc)).trans hc
          have h1 := Lib.hid (Srt.walks_take_succ t.kids (fun c => if c = t.nb then s.n else e c) (s.fresh.carry (e t.na) s.n) j hlt)
          have h2 := kid_le t j hlt
          have h3 := sizes_take_succ t.kids j hlt
          have h4 := sizes_take_le t.kids (j + 1)
          have h5 := sizes_kids t
          have hlt4 : (j : Int) < (t.kids.length : Int) := by omega
          have hU := Tryz.underlying73
          have hI : (Tryz.prog.info? 73).map (·.size) = some (envL (fun c => if c = t.nb then s.n else e c)).length := by rw [envL_len]; kernel_rfl
          obtain ⟨u1, u2, hsr, hfr, hk1, hk2⟩ := HR.out.sr
          have HST : Hid (∀ W5 x1 x2 s', Fr wr g u1 u2 W5 x1 x2 → SrAt W5 N g x1 x2 ex s' → WK w0 w W5 N g w.heap.size v1 v2 ex s' (fun c => if c = t.nb then s.n else e c)) := fun W5 x1 x2 s' f5 s5 => HR.out.step HG.out.1 HX.out.1 hsr hfr hk1 hk2 f5 s5
          have hrec := ih t.kids[j] (fun c => if c = t.nb then s.n else e c) (Srt.walks (t.kids.take j) (fun c => if c = t.nb then s.n else e c) (s.fresh.carry (e t.na) s.n)) w0 wr Nt N g y u1 u2 ex (by omega) (by omega) (kid_wf HW.out j hlt) hy HR.out.below HG.out.1 HR.out.nle hsr (HRR.out j).1 (fun c hc => by have := H2.out _ (List.getElem_mem hlt) c hc; have := (HRR.out j).2.1; omega) (by have := (HRR.out j).2.2; have := H3.out; omega)
          clear h3 h4 h5 hc hy hsr hfr hk1 hk2
          go_wp2_with (first | ((with_reducible refine gate_dst (N := 70) rfl ?_); refine wpList_load_mid (by rfl) 73 (.tmp 5) (by rfl) w.heap.size 0 (by rfl) (envL (fun c => if c = t.nb then s.n else e c)) _ HR.out.env.range hU rfl hI ?_))
          refine hrec.mono ?_
          rintro e' W5 ⟨rfl, x1, x2, S5, F5⟩
          have HN : Hid (WK w0 w W5 N g w.heap.size v1 v2 ex (Srt.walks (t.kids.take (j + 1)) (fun c => if c = t.nb then s.n else e c) (s.fresh.carry (e t.na) s.n)) (fun c => if c = t.nb then s.n else e c)) := by
            rw [h1.out]
            exact HST.out _ _ _ _ F5 S5
          clear hrec S5 F5 hc2 hU hI HST
          go_wp2_with fail
          go_roundw
          case rel => exact ⟨j + 1, by omega, by go_num, HN.out⟩
          case measure => simp [intOf]; omega
        · have HFI := Lib.hid (congrArg (fun l => Srt.walks l (fun c => if c = t.nb then s.n else e c) (s.fresh.carry (e t.na) s.n)) (List.take_of_length_le (by omega : t.kids.length ≤ j)))
          go_wp2_with fail
          go_end0
          obtain ⟨x1, x2, S6, F6, _, _⟩ := HR.out.sr
          exact ⟨rfl, x1, x2, by rw [HV.out, ← HFI.out]; exact S6, F6⟩
    · have HV := Lib.hid hv
      have A2 := Lib.hid a2
      have hna : (vl t.na != 0) = false := by rw [a1]; rfl
      have hbi : bindsB t.kind = true := by rw [hkd]; rfl
      rw [decide_eq_false (by rw [hkd]; decide)] at q33
      rw [decide_eq_false (by rw [hkd]; decide)] at q61
      rw [decide_eq_false (by rw [hkd]; decide)] at q63
      have H1 : Hid s.fresh.Ok := HO.out.fresh
      have H2 : Hid (∀ u, u ∈ t.kids → Srt.Sc u.fr (fun c => if c = t.nb then s.n else e c) s.fresh) := sc_bind HW.out (.inr hkd) HSC.out (Nat.lt_succ_self _)
      have H3 : Hid (s.fresh.n + sizes t.kids ≤ 1000) := by have := HBD.out; show s.n + 1 + _ ≤ _; omega
      go_enter Tryz.func50, Tryz.ntmps50
      go_upto_region 1 with fail
      obtain ⟨W2, hW2⟩ : ∃ W2, W2 = w.alloc (.cells (envA e) 73) := ⟨_, rfl⟩
      rw [← hW2]
      have HT : Hid (SrAt W2 N g v1 v2 ex s ∧ Below w0.heap.size w0 W2 ∧ N ≤ W2.heap.size) := by rw [hW2]; exact ⟨HS.out.alloc _, HB.out.alloc HB.out.size _, by have := HG.out.2; simp; omega⟩
      have HE : Hid (EnvAt W2 w.heap.size e) := by rw [hW2]; exact env_new w e _
      have HF : Hid (Fr w g v1 v2 W2 v1 v2) := by rw [hW2]; exact Fr.alloc _ _ _ _ _
      have HKS : Hid (WK w0 w W2 N g w.heap.size v1 v2 ex s e) := by rw [hW2]; exact WK.start HS.out HB.out HG.out.2 e _
      clear hW2
      have d0 := (HT.out.2.1.cell hbx).trans C0.out
      have d1 := (HT.out.2.1.cell hbx).trans C1.out
      have d2 := (HT.out.2.1.cell hbx).trans C2.out
      have d3 := (HT.out.2.1.cell hbx).trans C3.out
      have hbc := binds_calls t.kind b W2 d0
      rw [hbi] at hbc
      obtain ⟨i, hi, hvi, hti⟩ := let_index a2
      have CB : Hid (w0.cell? ⟨b, 2, none⟩ = some (.int .u8 (97 + (i : Nat)))) := by rw [Hid, ← hvi]; exact C2.out
      have HTI := Lib.hid hti
      clear hkd hv a1 a2 hbi HCASE hti
      go_wp2_with fail
      refine hbc.mono ?_
      rintro e' w' ⟨rfl, rfl⟩
      clear hbc
      go_wp2_with fail
      rw [hvi] at d2
      have e97 : ((97 : Int) + (i : Nat) - 97) = (i : Nat) := by omega
      have e98 : IntKind.u8.wrap ((i : Nat) : Int) = (i : Nat) := by rw [IntKind.wrap_u8]; omega
      have e99 : ((i : Nat) : Int) < 26 := by omega
      clear hvi d0 d1 d3
      refine start_ (n := 9) (S := fun w' => w'.cell? ⟨b, 2, none⟩ = some (.int .u8 (97 + (i : Nat)))) (ds := [8]) #[false, false, false, false, false, false, false, false, false] (by kernel_rfl) rfl rfl (d2) (fun hHeld => ?_)
      refine with_tabW swalk_.tab6 swalk_.bits6 (fun HT_ HW_ => ?_)
      have T : SrAt W2.drew N g v1 v2 ex s ∧ Below w0.heap.size w0 W2.drew ∧ N ≤ W2.drew.heap.size ∧ WK w0 w W2.drew N g w.heap.size v1 v2 ex s e ∧ Fr w g v1 v2 W2.drew v1 v2 := ⟨HT.out.1.drewN 1, pw_below_drewN HT.out.2.1 1, HT.out.2.2, HKS.out.drew, HF.out.trans (Fr.drewN _ _ _ _ 1)⟩
      generalize W2.drew = W3 at T hHeld ⊢
      refine pure_ (i := 0) (N := some 24) (v := ?_) (a' := ?_) #[true, false, false, false, false, false, false, false, false] rfl rfl (any_of HT_.out (by kernel_rfl)) (fun _ _ _ h => h) (Or.inl ⟨by rfl, ?_⟩) ?_ ?_
      rotate_left; (intro w'; go_simp; with_reducible rfl); rotate_left; (simp only [Act.put, List.setIfInBounds_toArray, List.set_cons_zero, List.set_cons_succ, i64_w, i32_w]; rfl)
      refine pure_ (i := 1) (N := some 25) (v := ?_) (a' := ?_) #[true, true, false, false, false, false, false, false, false] rfl rfl (any_of HT_.out (by kernel_rfl)) (fun _ _ _ h => h) (Or.inl ⟨by rfl, ?_⟩) ?_ ?_
      rotate_left; (intro w'; go_simp; with_reducible rfl); rotate_left; (simp only [Act.put, List.setIfInBounds_toArray, List.set_cons_zero, List.set_cons_succ, i64_w, i32_w]; rfl)
      refine pure_ (i := 2) (N := some 26) (v := ?_) (a' := ?_) #[true, true, true, false, false, false, false, false, false] rfl rfl (any_of HT_.out (by kernel_rfl)) (fun _ _ _ h => h) (Or.inl ⟨by rfl, ?_⟩) ?_ ?_
      rotate_left; (intro w'; go_simp; with_reducible rfl); rotate_left; (simp only [Act.put, List.setIfInBounds_toArray, List.set_cons_zero, List.set_cons_succ, i64_w, i32_w]; rfl)
      refine pure_ (i := 5) (N := some 29) (v := ?_) (a' := ?_) #[true, true, true, false, false, true, false, false, false] rfl rfl (any_of HT_.out (by kernel_rfl)) (fun _ _ _ h => h) (Or.inl ⟨by rfl, ?_⟩) ?_ ?_
      rotate_left; (intro w'; go_simp; with_reducible rfl); rotate_left; (simp only [Act.put, List.setIfInBounds_toArray, List.set_cons_zero, List.set_cons_succ, i64_w, i32_w]; rfl)
      refine take_ (i := 3) (N := some 27) (v := ?_) (a' := ?_) #[true, true, true, true, false, true, false, false, false] rfl rfl (take_ofW HT_.out HW_.out (by kernel_rfl)) (fun _ _ _ h => h) (Or.inl ⟨by rfl, ?_⟩) hHeld ?_ ?_
      rotate_left; (intro w' s0; go_simp; with_reducible rfl); rotate_left; (simp only [Act.put, List.setIfInBounds_toArray, List.set_cons_zero, List.set_cons_succ, i64_w, i32_w]; rfl)
      refine pure_ (i := 4) (N := some 28) (v := ?_) (a' := ?_) #[true, true, true, true, true, true, false, false, false] rfl rfl (any_of HT_.out (by kernel_rfl)) (fun _ _ _ h => h) (Or.inl ⟨by rfl, ?_⟩) ?_ ?_
      rotate_left; (intro w'; go_simp; with_reducible rfl); rotate_left; (simp only [Act.put, List.setIfInBounds_toArray, List.set_cons_zero, List.set_cons_succ, i64_w, i32_w]; rfl)
      refine one_ (i := 6) (N := some 30) #[true, true, true, true, true, true, true, false, false] rfl rfl (one_of HT_.out (by kernel_rfl)) (by decide) (fun K hK => ?_)
      refine goes_ Tryz.func49 (by kernel_rfl) rfl #[.pointer (some ⟨g, 0, none⟩)] (by rfl) rfl rfl (by simp only [List.map_toArray, List.map_cons, List.map_nil]; rfl) ?_
      with_reducible refine (new_calls T.1 HM.out T.2.2.1).mono ?_
      rintro e W4 ⟨u1, u2, rfl, S1, F1⟩
      refine ⟨_, rfl, ?_⟩
      have K4 := T.2.2.2.1.step HG.out.1 HX.out.1 T.1 T.2.2.2.2 HX.out.2.1 HX.out.2.2.1 F1 S1
      have HK4 := Lib.hid K4
      have k0 := K4.env.cell hi
      have z0 := K4.env.frozen i
      have hp0 := (K4.below.cell HL.out.lt).trans CB.out
      clear T K4 S1 F1
      refine hK.out _ _ (hp0) (fun hHeld => ?_)
      clear hK K
      refine norm_ (a' := ?_) ?_ ?_
      rotate_left
      · show Act.put _ (some 30) _ = _
        simp only [Act.put, List.setIfInBounds_toArray, List.set_cons_zero, List.set_cons_succ, i64_w, i32_w]
        rfl
      refine pure_ (i := 7) (N := some 31) (v := ?_) (a' := ?_) #[true, true, true, true, true, true, true, true, false] rfl rfl (any_of HT_.out (by kernel_rfl)) (fun _ _ _ h => h) (Or.inl ⟨by rfl, ?_⟩) ?_ ?_
      rotate_left; (intro w'; go_simp; with_reducible rfl); rotate_left; (simp only [Act.put, List.setIfInBounds_toArray, List.set_cons_zero, List.set_cons_succ, i64_w, i32_w]; rfl)
      refine last_ (i := 8) (N := none) #[true, true, true, true, true, true, true, true, true] rfl rfl (one_of HT_.out (by kernel_rfl)) (by decide) (fun K hK => ?_)
      clear hp0 hHeld
      refine skip_ (w1 := ?_) (by rfl) rfl ?_ ?_
      rotate_left
      · go_simp
        rfl
      refine hK.out _ _ ?_
      clear hK K
      refine done_ (done_of HT_.out (by kernel_rfl)) ?_
      have K5 := HK4.out.put (Nat.le_refl _) HX.out.2.2.2 HX.out.1 hi s.n
      rw [← HTI.out] at K5
      obtain ⟨W5, hW5⟩ : ∃ W5, W5 = W4.setCell ⟨w.heap.size, i, none⟩ (.int .i64 (s.n : Nat)) := ⟨_, rfl⟩
      rw [← hW5] at K5 ⊢
      clear hW5 k0 z0 e97 e98 e99 d2
      have d0 := (K5.below.cell hbx).trans C0.out
      have d1 := (K5.below.cell hbx).trans C1.out
      have d2 := (K5.below.cell hbx).trans C2.out
      have d3 := (K5.below.cell hbx).trans C3.out
      have K := K5
      clear K5
      go_upto_region 13 with fail
      have HRR : Hid (∀ j, (Srt.walks (t.kids.take j) (fun c => if c = t.nb then s.n else e c) s.fresh).Ok ∧ (s.fresh).n ≤ (Srt.walks (t.kids.take j) (fun c => if c = t.nb then s.n else e c) s.fresh).n ∧ (Srt.walks (t.kids.take j) (fun c => if c = t.nb then s.n else e c) s.fresh).n ≤ (s.fresh).n + sizes (t.kids.take j)) := fun j => Srt.walks_ok (fun c => if c = t.nb then s.n else e c) (t.kids.take j) s.fresh (fun u hu => kid_wf_mem HW.out (List.mem_of_mem_take hu)) H1.out (fun u hu => H2.out u (List.mem_of_mem_take hu))
      have d3' := (K.below.cell hbx).trans C3.out
      have HK0 := Lib.hid K
      clear K d0 d1 d2 d3
      go_wp2_with fail
      go_loopw [64] (fun i wr => ∃ j : Nat, j ≤ t.kids.length ∧ i = .int .i64 j ∧ WK w0 w wr N g w.heap.size v1 v2 ex (Srt.walks (t.kids.take j) (fun c => if c = t.nb then s.n else e c) s.fresh) (fun c => if c = t.nb then s.n else e c)) (fun i _ => t.kids.length - (intOf i).toNat)
      case atStart => exact ⟨0, Nat.zero_le _, rfl, HK0.out⟩
      case round =>
        obtain ⟨j, hj, rfl, hr⟩ := hrel
        have HR := Lib.hid hr
        clear hr
        by_cases hlt : j < t.kids.length
        · obtain ⟨rr, y, rfl, hc, hy⟩ := HK.out j hlt
          have hc2 := (HR.out.below.cell (World.block_lt_of_cell? w0 _ hc)).trans hc
          have h1 := Lib.hid (Srt.walks_take_succ t.kids (fun c => if c = t.nb then s.n else e c) s.fresh j hlt)
          have h2 := kid_le t j hlt
          have h3 := sizes_take_succ t.kids j hlt
          have h4 := sizes_take_le t.kids (j + 1)
          have h5 := sizes_kids t
          have hlt4 : (j : Int) < (t.kids.length : Int) := by omega
          have hU := Tryz.underlying73
          have hI : (Tryz.prog.info? 73).map (·.size) = some (envL (fun c => if c = t.nb then s.n else e c)).length := by rw [envL_len]; kernel_rfl
          obtain ⟨u1, u2, hsr, hfr, hk1, hk2⟩ := HR.out.sr
          have HST : Hid (∀ W5 x1 x2 s', Fr wr g u1 u2 W5 x1 x2 → SrAt W5 N g x1 x2 ex s' → WK w0 w W5 N g w.heap.size v1 v2 ex s' (fun c => if c = t.nb then s.n else e c)) := fun W5 x1 x2 s' f5 s5 => HR.out.step HG.out.1 HX.out.1 hsr hfr hk1 hk2 f5 s5
          have hrec := ih t.kids[j] (fun c => if c = t.nb then s.n else e c) (Srt.walks (t.kids.take j) (fun c => if c = t.nb then s.n else e c) s.fresh) w0 wr Nt N g y u1 u2 ex (by omega) (by omega) (kid_wf HW.out j hlt) hy HR.out.below HG.out.1 HR.out.nle hsr (HRR.out j).1 (fun c hc => by have := H2.out _ (List.getElem_mem hlt) c hc; have := (HRR.out j).2.1; omega) (by have := (HRR.out j).2.2; have := H3.out; omega)
          clear h3 h4 h5 hc hy hsr hfr hk1 hk2
          go_wp2_with (first | ((with_reducible refine gate_dst (N := 70) rfl ?_); refine wpList_load_mid (by rfl) 73 (.tmp 5) (by rfl) w.heap.size 0 (by rfl) (envL (fun c => if c = t.nb then s.n else e c)) _ HR.out.env.range hU rfl hI ?_))
          refine hrec.mono ?_
          rintro e' W5 ⟨rfl, x1, x2, S5, F5⟩
          have HN : Hid (WK w0 w W5 N g w.heap.size v1 v2 ex (Srt.walks (t.kids.take (j + 1)) (fun c => if c = t.nb then s.n else e c) s.fresh) (fun c => if c = t.nb then s.n else e c)) := by
            rw [h1.out]
            exact HST.out _ _ _ _ F5 S5
          clear hrec S5 F5 hc2 hU hI HST
          go_wp2_with fail
          go_roundw
          case rel => exact ⟨j + 1, by omega, by go_num, HN.out⟩
          case measure => simp [intOf]; omega
        · have HFI := Lib.hid (congrArg (fun l => Srt.walks l (fun c => if c = t.nb then s.n else e c) s.fresh) (List.take_of_length_le (by omega : t.kids.length ≤ j)))
          go_wp2_with fail
          go_end0
          obtain ⟨x1, x2, S6, F6, _, _⟩ := HR.out.sr
          exact ⟨rfl, x1, x2, by rw [HV.out, ← HFI.out]; exact S6, F6⟩
    · have HV := Lib.hid hv
      have hna : (vl t.na != 0) = false := by rw [a1]; rfl
      have hbi : bindsB t.kind = false := by simp [bindsB, k3, k4]
      rw [decide_eq_false k1] at q33
      rw [decide_eq_false k2] at q61
      rw [decide_eq_false k3] at q63
      have H1 : Hid s.Ok := HO.out
      have H2 : Hid (∀ u, u ∈ t.kids → Srt.Sc u.fr e s) := sc_plain HW.out ⟨k3, k4⟩ HSC.out (Nat.le_refl _)
      have H3 : Hid (s.n + sizes t.kids ≤ 1000) := by have := HBD.out; show _ ≤ _; omega
      go_enter Tryz.func50, Tryz.ntmps50
      go_upto_region 1 with fail
      obtain ⟨W2, hW2⟩ : ∃ W2, W2 = w.alloc (.cells (envA e) 73) := ⟨_, rfl⟩
      rw [← hW2]
      have HT : Hid (SrAt W2 N g v1 v2 ex s ∧ Below w0.heap.size w0 W2 ∧ N ≤ W2.heap.size) := by rw [hW2]; exact ⟨HS.out.alloc _, HB.out.alloc HB.out.size _, by have := HG.out.2; simp; omega⟩
      have HE : Hid (EnvAt W2 w.heap.size e) := by rw [hW2]; exact env_new w e _
      have HF : Hid (Fr w g v1 v2 W2 v1 v2) := by rw [hW2]; exact Fr.alloc _ _ _ _ _
      have HKS : Hid (WK w0 w W2 N g w.heap.size v1 v2 ex s e) := by rw [hW2]; exact WK.start HS.out HB.out HG.out.2 e _
      clear hW2
      have d0 := (HT.out.2.1.cell hbx).trans C0.out
      have d1 := (HT.out.2.1.cell hbx).trans C1.out
      have d2 := (HT.out.2.1.cell hbx).trans C2.out
      have d3 := (HT.out.2.1.cell hbx).trans C3.out
      have hbc := binds_calls t.kind b W2 d0
      rw [hbi] at hbc
      clear k1 k2 k3 k4 hv a1 a2 hbi HCASE
      go_wp2_with fail
      refine hbc.mono ?_
      rintro e' w' ⟨rfl, rfl⟩
      clear hbc
      have K := HKS.out
      go_upto_region 13 with fail
      have HRR : Hid (∀ j, (Srt.walks (t.kids.take j) e s).Ok ∧ (s).n ≤ (Srt.walks (t.kids.take j) e s).n ∧ (Srt.walks (t.kids.take j) e s).n ≤ (s).n + sizes (t.kids.take j)) := fun j => Srt.walks_ok e (t.kids.take j) s (fun u hu => kid_wf_mem HW.out (List.mem_of_mem_take hu)) H1.out (fun u hu => H2.out u (List.mem_of_mem_take hu))
      have d3' := (K.below.cell hbx).trans C3.out
      have HK0 := Lib.hid K
      clear K d0 d1 d2 d3
      go_wp2_with fail
      go_loopw [64] (fun i wr => ∃ j : Nat, j ≤ t.kids.length ∧ i = .int .i64 j ∧ WK w0 w wr N g w.heap.size v1 v2 ex (Srt.walks (t.kids.take j) e s) e) (fun i _ => t.kids.length - (intOf i).toNat)
      case atStart => exact ⟨0, Nat.zero_le _, rfl, HK0.out⟩
      case round =>
        obtain ⟨j, hj, rfl, hr⟩ := hrel
        have HR := Lib.hid hr
        clear hr
        by_cases hlt : j < t.kids.length
        · obtain ⟨rr, y, rfl, hc, hy⟩ := HK.out j hlt
          have hc2 := (HR.out.below.cell (World.block_lt_of_cell? w0 _ hc)).trans hc
          have h1 := Lib.hid (Srt.walks_take_succ t.kids e s j hlt)
          have h2 := kid_le t j hlt
          have h3 := sizes_take_succ t.kids j hlt
          have h4 := sizes_take_le t.kids (j + 1)
          have h5 := sizes_kids t
          have hlt4 : (j : Int) < (t.kids.length : Int) := by omega
          have hU := Tryz.underlying73
          have hI : (Tryz.prog.info? 73).map (·.size) = some (envL e).length := by rw [envL_len]; kernel_rfl
          obtain ⟨u1, u2, hsr, hfr, hk1, hk2⟩ := HR.out.sr
          have HST : Hid (∀ W5 x1 x2 s', Fr wr g u1 u2 W5 x1 x2 → SrAt W5 N g x1 x2 ex s' → WK w0 w W5 N g w.heap.size v1 v2 ex s' e) := fun W5 x1 x2 s' f5 s5 => HR.out.step HG.out.1 HX.out.1 hsr hfr hk1 hk2 f5 s5
          have hrec := ih t.kids[j] e (Srt.walks (t.kids.take j) e s) w0 wr Nt N g y u1 u2 ex (by omega) (by omega) (kid_wf HW.out j hlt) hy HR.out.below HG.out.1 HR.out.nle hsr (HRR.out j).1 (fun c hc => by have := H2.out _ (List.getElem_mem hlt) c hc; have := (HRR.out j).2.1; omega) (by have := (HRR.out j).2.2; have := H3.out; omega)
          clear h3 h4 h5 hc hy hsr hfr hk1 hk2
          go_wp2_with (first | ((with_reducible refine gate_dst (N := 70) rfl ?_); refine wpList_load_mid (by rfl) 73 (.tmp 5) (by rfl) w.heap.size 0 (by rfl) (envL e) _ HR.out.env.range hU rfl hI ?_))
          refine hrec.mono ?_
          rintro e' W5 ⟨rfl, x1, x2, S5, F5⟩
          have HN : Hid (WK w0 w W5 N g w.heap.size v1 v2 ex (Srt.walks (t.kids.take (j + 1)) e s) e) := by
            rw [h1.out]
            exact HST.out _ _ _ _ F5 S5
          clear hrec S5 F5 hc2 hU hI HST
          go_wp2_with fail
          go_roundw
          case rel => exact ⟨j + 1, by omega, by go_num, HN.out⟩
          case measure => simp [intOf]; omega
        · have HFI := Lib.hid (congrArg (fun l => Srt.walks l e s) (List.take_of_length_le (by omega : t.kids.length ≤ j)))
          go_wp2_with fail
          go_end0
          obtain ⟨x1, x2, S6, F6, _, _⟩ := HR.out.sr
          exact ⟨rfl, x1, x2, by rw [HV.out, ← HFI.out]; exact S6, F6⟩
end Go.Proofs.YtjgfgjhaghbehaaGreat
namespace Go.Proofs.YtjgfgjhaghbehaaGreat
open Go.RowKit Go.Proofs.YtjgfgjhaghbehaaGreatW.PrintWords Go.Proofs.YtjgfgjhaghbehaaGreatW.PrintLast Go.Proofs.YtjgfgjhaghbehaaGreatW.PrintMore Go.Maps
set_option linter.unusedVariables false
set_option linter.unusedSimpArgs false

theorem heap_at2 (w : World) (a b c : Obj) : (((w.alloc a).alloc b).alloc c).heap[w.heap.size + 1 + 1]? = some c := by
  have := heap_alloc_new ((w.alloc a).alloc b) c
  simpa using this
theorem name_world {P : Program} {c : Code} {Q : Exit → Act → World → Prop} {a : Act} {w : World} (h : ∀ W, W = w → c.wp P Q a W) : c.wp P Q a w := h w rfl
theorem there_of {w : World} {g n : Nat} {cs : Array Value} {t : TypeId} (h : w.heap[g]? = some (.cells cs t (0, 0))) (hn : cs.size = n) : w.there g 0 n := fun j hj => by
  rw [Nat.zero_add, blk_cell h j]
  exact ⟨by rw [Array.getElem?_eq_getElem (by omega)]; rfl, blk_frozen h j⟩
theorem env_all (e : UInt8 → Nat) : (envA e).all (·.oneCell') = true := all_oneCell_toArray fun v hv => by
  simp only [envL, List.mem_map] at hv
  obtain ⟨i, _, rfl⟩ := hv
  rfl
theorem EnvAt.cells {w : World} {g : Nat} {e : UInt8 → Nat} {cs : Array Value} {t : TypeId} (h : w.heap[g]? = some (.cells cs t (0, 0))) (hn : cs.size = 26) : EnvAt (w.setCells g 0 (envA e).toList) g e := by
  have hz := envA_size e
  obtain ⟨cur', h3, h4, h5⟩ := setCells_row (envA e).toList 0 w cs h (by rw [Array.length_toList]; omega)
  have hd : cs.toList.drop (0 + (envA e).toList.length) = [] := List.drop_eq_nil_of_le (by rw [Array.length_toList, Array.length_toList]; omega)
  rw [hd, List.take_zero, List.nil_append, List.append_nil] at h5
  have hc : cur' = envA e := Array.ext' h5
  rw [hc] at h3
  exact ⟨t, h3⟩
theorem below_setCells {w0 w : World} {g : Nat} (h : Below w0.heap.size w0 w) (hg : w0.heap.size ≤ g) (o : Nat) (vs : List Value) : Below w0.heap.size w0 (w.setCells g o vs) := by
  obtain ⟨p, q, r, t, u⟩ := h
  obtain ⟨a, b, c, d⟩ := setCells_same g vs o w
  exact ⟨a.trans p, b.trans q, c.trans r, by rw [d]; exact t, fun i hi => (setCells_far vs o i (by omega)).trans (u i hi)⟩
theorem Tryz.infoEnv : (Tryz.prog.info? 73).map (·.size) = some 26 := by kernel_rfl
theorem below_bytes (w : World) (e : TypeId) (s : ByteArray) : Below w.heap.size w (Lib.bytesWorld w e s) :=
  ⟨rfl, rfl, rfl, by rw [Lib.bytesWorld_size]; omega, fun i hi => Lib.bytesWorld_at_old w e s i hi⟩

theorem place_at : ∀ {L : List UInt8} {j : Nat} (hn : L.Nodup) (h : j < L.length), Srt.place L L[j] = j
  | d :: L, 0, _, _ => by simp [Srt.place]
  | d :: L, j + 1, hn, h => by
    have h2 : j < L.length := by simpa using h
    have hd : ¬ L[j] = d := fun e => (List.nodup_cons.mp hn).1 (e ▸ List.getElem_mem h2)
    simp only [List.getElem_cons_succ, Srt.place]
    rw [if_neg hd, if_pos (List.getElem_mem h2), place_at (List.nodup_cons.mp hn).2 h2]
theorem place_no : ∀ {L : List UInt8} {c : UInt8}, c ∉ L → Srt.place L c = 0
  | [], _, _ => rfl
  | d :: L, c, h => by
    simp only [List.mem_cons, not_or] at h
    simp only [Srt.place]
    rw [if_neg h.1, if_neg h.2]
theorem lets_nodup : (letsFrom 0).Nodup := by
  unfold letsFrom
  rw [List.nodup_iff_pairwise_ne, List.pairwise_map]
  have := List.nodup_range (n := 26 - 0)
  rw [List.nodup_iff_pairwise_ne] at this
  refine List.Pairwise.imp_of_mem ?_ this
  intro a b ha hb hab e
  rw [List.mem_range] at ha hb
  exact hab (by have := letAt_inj (by omega) (by omega) e; omega)
theorem sort_nodup (p : UInt8 → Bool) : (sortL p).Nodup := lets_nodup.filter _

def FreeAt (w : World) (m k : Nat) (L L' : List UInt8) : Prop := ∃ D : DataW Unit, w.ownsMap Tryz.prog 5 (plainElem Tryz.prog 3) m k D ∧
  ∀ c, Maps.has D (.int .u8 (vl c)) = decide (c ∈ L') ∧ (c ∈ L' → ∀ z, D.atKey (.int .u8 (vl c)) z = .lit (.int .i64 ((Srt.place L c : Nat) : Int)))
theorem FreeAt.keep {w w' : World} {m k : Nat} {L L' : List UInt8} (h : FreeAt w m k L L') (hk : w'.heap[m]? = w.heap[m]?) : FreeAt w' m k L L' := by
  obtain ⟨D, ⟨es, clock, hb, r⟩, h⟩ := h
  exact ⟨D, ⟨es, clock, hk.trans hb, r⟩, h⟩
theorem FreeAt.lt {w : World} {m k : Nat} {L L' : List UInt8} (h : FreeAt w m k L L') : m < w.heap.size := by obtain ⟨D, h, _⟩ := h; exact h.lt
structure SO (w wr : World) (N Rb : Nat) (L : List UInt8) (j : Nat) : Prop where
  sr : ∃ v1 v2, SrAt wr N (w.heap.size + 1) v1 v2 [.map (some w.heap.size)] (Srt.many j)
  mp : FreeAt wr w.heap.size j L (L.take j)
  env : EnvAt wr (w.heap.size + 2) (fun c => if c ∈ L.take j then Srt.place L c else 0)
  below : Below w.heap.size w wr
  row : ∀ i, (hi : i < L.length) → wr.cell? ⟨Rb, i, none⟩ = some (.int .u8 (vl L[i]))
  rb : Rb = w.heap.size + 3 ∧ Rb < N
  nle : N ≤ wr.heap.size
theorem SO.drew {w wr : World} {N Rb : Nat} {L : List UInt8} {j : Nat} (h : SO w wr N Rb L j) : SO w wr.drew N Rb L j := by
  obtain ⟨⟨v1, v2, h1⟩, h2, h3, h4, h5, h6, h7⟩ := h
  exact ⟨⟨v1, v2, h1.drewN 1⟩, h2.keep rfl, h3.drewN 1, pw_below_drewN h4 1, h5, h6, h7⟩
structure SO1 (w wr : World) (N Rb : Nat) (L : List UInt8) (j : Nat) : Prop where
  sr : ∃ v1 v2, SrAt wr N (w.heap.size + 1) v1 v2 [.map (some w.heap.size)] (Srt.many (j + 1))
  mp : FreeAt wr w.heap.size j L (L.take j)
  env : EnvAt wr (w.heap.size + 2) (fun c => if c ∈ L.take j then Srt.place L c else 0)
  below : Below w.heap.size w wr
  row : ∀ i, (hi : i < L.length) → wr.cell? ⟨Rb, i, none⟩ = some (.int .u8 (vl L[i]))
  rb : Rb = w.heap.size + 3 ∧ Rb < N
  nle : N ≤ wr.heap.size
section
variable {w wr w' : World} {N Rb j : Nat} {L : List UInt8} {v1 v2 u1 u2 : Value}
theorem SO.step (h : SO w wr N Rb L j) (hs : SrAt wr N (w.heap.size + 1) v1 v2 [.map (some w.heap.size)] (Srt.many j)) (hf : Fr wr (w.heap.size + 1) v1 v2 w' u1 u2) (hs' : SrAt w' N (w.heap.size + 1) u1 u2 [.map (some w.heap.size)] (Srt.many j).fresh) : SO1 w w' N Rb L j := by
  obtain ⟨_, h2, h3, h4, h5, h6, h7⟩ := h
  have hk : ∀ i, i < N → i ≠ w.heap.size + 1 → w'.heap[i]? = wr.heap[i]? := fun i hi hg => hf.block i (by omega) hg (fun q => by have := (hs.r1.own q).1; omega) (fun q => by have := (hs.r2.own q).1; omega)
  exact ⟨⟨u1, u2, hs'⟩, h2.keep (hk _ (by omega) (by omega)), h3.keep (hk _ (by omega) (by omega)), hs.belowOf hf h4 (by omega), fun i hi => (World.cell?_of_block (hk Rb h6.2 (by omega))).trans (h5 i hi), h6, Nat.le_trans h7 hf.size⟩
theorem SO1.update (h : SO1 w wr N Rb L j) {i : Nat} {c : UInt8} (hi : i < 26) (hv : vl c = 97 + (i : Nat)) (hx : ∃ hj : j < L.length, L[j] = c ∧ L.Nodup ∧ L.length ≤ 26) :
    ∃ w', (Instr.mapUpdate 48 (.map (some w.heap.size)) (.int .u8 (97 + (i : Nat))) (.int .i64 (j : Nat))).run Tryz.prog wr = .ok () w' ∧ FreeAt w' w.heap.size (j + 1) L (L.take (j + 1)) ∧ wr.grownBy w' (some w.heap.size) := by
  obtain ⟨hj, hc, hnd, hlen⟩ := hx
  obtain ⟨D, hown, hD⟩ := h.mp
  have hwf : (Lit.int .u8 (97 + (i : Nat))).wf = true := by simp [Lit.wf, show IntKind.u8.min = 0 from rfl, show IntKind.u8.max = 255 from rfl]; omega
  have hkey := keyOf_int_mk (P := Tryz.prog) Tryz.underlying5 hwf
  obtain ⟨w', hrun, hown', hturn⟩ := hown.store (int_keyed Tryz.underlying5) Tryz.underlying48 (show j < maxLen by unfold maxLen; omega) hkey (plainElem_int Tryz.underlying3 (show (Lit.int .i64 (j : Nat)).wf = true by simp [Lit.wf, show IntKind.i64.min = -9223372036854775808 from rfl, show IntKind.i64.max = 9223372036854775807 from rfl]; omega))
  refine ⟨w', hrun, ⟨_, hown', fun d => ?_⟩, hturn.grown⟩
  have hmem : d ∈ L.take (j + 1) ↔ d ∈ L.take j ∨ d = c := by rw [List.take_succ_eq_append_getElem hj, hc]; simp
  by_cases hdc : d = c
  · subst hdc
    rw [hv]
    refine ⟨by rw [has_put_same hown.isMap (by simp [WideAt.IsKeyLit])]; simp [hmem], fun _ z => ?_⟩
    rw [atKey_put_same hown.isMap (by simp [WideAt.IsKeyLit]), ← hc, place_at hnd hj]
  · have hne : (Lit.int .u8 (vl d) : Lit) ≠ Lit.int .u8 (97 + (i : Nat)) := fun e => by
      injection e with _ e
      exact hdc (vl_inj.mp (e.trans hv.symm))
    obtain ⟨k1, k2⟩ := hD d
    refine ⟨by rw [has_put_other hne, k1]; simp [hmem, hdc], fun hm z => ?_⟩
    rw [atKey_put_other hne]
    exact k2 (by rcases hmem.mp hm with q | q; exact q; exact absurd q hdc) z
theorem FreeAt.look {m k : Nat} {L' : List UInt8} (h : FreeAt wr m k L L') {c : UInt8} (hc : c ∈ L') (z : Int) (hz : vl c = z) :
    (Instr.lookup 48 (.map (some m)) (.int .u8 z) false).run Tryz.prog wr = .ok (.int .i64 ((Srt.place L c : Nat) : Int)) wr := by
  obtain ⟨D, hown, hD⟩ := h
  have hr := vl_range c
  have hwf : (Lit.int .u8 z).wf = true := by simp [Lit.wf, show IntKind.u8.min = 0 from rfl, show IntKind.u8.max = 255 from rfl]; omega
  obtain ⟨x, hrun, hat, _⟩ := hown.lookup_int (int_keyed Tryz.underlying5) Tryz.underlying48 Tryz.underlying3 (by kernel_rfl) (keyOf_int_mk Tryz.underlying5 hwf)
  rw [← hz, (hD c).2 hc] at hat
  simp only [DataW.lit.injEq, Lit.int.injEq, true_and] at hat
  rw [hrun, hat]
theorem SO1.done (h : SO1 w wr N Rb L j) {i : Nat} (hi : i < 26) (hx : ∃ hj : j < L.length, L[j] = letAt i ∧ L.Nodup ∧ L.length ≤ 26) (hm : FreeAt w' w.heap.size (j + 1) L (L.take (j + 1))) (hg : wr.grownBy w' (some w.heap.size)) :
    SO w (w'.setCell ⟨w.heap.size + 2, i, none⟩ (.int .i64 (j : Nat))) N Rb L (j + 1) := by
  obtain ⟨hj, hc, hnd, hlen⟩ := hx
  obtain ⟨⟨v1, v2, h1⟩, h2, h3, h4, h5, h6, h7⟩ := h
  have hk : ∀ i, i < wr.heap.size → i ≠ w.heap.size → w'.heap[i]? = wr.heap[i]? := fun i hi hn => hg.block i hi fun e => by injection e with e; exact hn e
  have hs1 : SrAt w' N (w.heap.size + 1) v1 v2 [.map (some w.heap.size)] (Srt.many (j + 1)) := h1.keep fun i hi hor => hk i hi (by omega)
  have hf : ∀ k, k ≠ w.heap.size + 2 → (w'.setCell ⟨w.heap.size + 2, i, none⟩ (.int .i64 (j : Nat))).heap[k]? = w'.heap[k]? := fun k hk => Below.heap_setCell w' _ _ k (by simpa using hk)
  have hsz := hg.size
  refine ⟨⟨v1, v2, hs1.far (by omega) (fun q => by have := (hs1.r1.own q).1; omega) (fun q => by have := (hs1.r2.own q).1; omega) _ _⟩, hm.keep (hf _ (by omega)), ?_, ?_, fun x hx => ?_, h6, by simp [World.setCell]; omega⟩
  · have he : EnvAt w' (w.heap.size + 2) (fun c => if c ∈ L.take j then Srt.place L c else 0) := h3.keep (hk _ (by omega) (by omega))
    have := he.put hi j
    have e2 : (fun c => if c = letAt i then j else (if c ∈ L.take j then Srt.place L c else 0)) = (fun c => if c ∈ L.take (j + 1) then Srt.place L c else 0) := by
      funext d
      have hmem : d ∈ L.take (j + 1) ↔ d ∈ L.take j ∨ d = letAt i := by rw [List.take_succ_eq_append_getElem hj, hc]; simp
      by_cases hd : d = letAt i
      · rw [if_pos hd, if_pos (hmem.mpr (.inr hd)), hd, ← hc, place_at hnd hj]
      · rw [if_neg hd]
        by_cases hd2 : d ∈ L.take j
        · rw [if_pos hd2, if_pos (hmem.mpr (.inl hd2))]
        · rw [if_neg hd2, if_neg (fun q => by rcases hmem.mp q with q | q; exact hd2 q; exact hd q)]
    rwa [e2] at this
  · have hb : Below w.heap.size w w' := by
      obtain ⟨p, q, r, t, u⟩ := h4
      exact ⟨hg.os.trans p, hg.tape.trans q, hg.output.trans r, Nat.le_trans t hg.size, fun x hx => (hk x (by omega) (by omega)).trans (u x hx)⟩
    exact hb.setCell (by simp) _
  · exact ((World.cell?_of_block (hf Rb (by omega))).trans (World.cell?_of_block (hk Rb (by omega) (by omega)))).trans (h5 x hx)
end
def sof_.T5 : Bool × List (List Nat × List Nat) := (true, [([], []), ([0], [0]), ([1], [1]), ([2], [2]), ([], []), ([], []), ([5], [5]), ([3, 4, 6, 6, 0, 1, 2, 3, 4, 5, 6], [3, 4, 6])])
def sof_.B5 : List Nat := [0, 1, 3, 7, 0, 0, 32, 127]
theorem sof_.tab5 : rtab .any (opsOf Tryz.f22 5) = sof_.T5 := by kernel_rfl
theorem sof_.bits5 : waitsOk sof_.T5.2 sof_.B5 = true := by kernel_rfl
set_option maxHeartbeats 8000000 in
set_option maxRecDepth 100000 in
theorem sortsOf_calls (t : Tm) (w : World) (Nt b : Nat) (hw : Wf isLet t) (hl : Lies w Nt t b) (hs : t.size ≤ 900) :
    Calls Tryz.prog 22 #[.pointer (some ⟨b, 0, none⟩)] w fun e w' => ∃ g m N v1 v2, e = .returned (.pointer (some ⟨g, 0, none⟩)) ∧ SrAt w' N g v1 v2 [.map (some m)] (Srt.of t) ∧ FreeAt w' m 26 (sortL t.fr) (sortL t.fr) ∧ Below w.heap.size w w' ∧ w.heap.size ≤ g := by
  have hmm := @run_makeMap Tryz.prog
  go_enter Tryz.func22, Tryz.ntmps22
  go_upto_region 1 with fail
  go_upto_region 2 with (first | (refine wpList_store_mid (by rfl) 73 (.tmp 4) (.tmp 10) (by rfl) (w.heap.size + 1 + 1) 0 (envA fun _ => 0) (by rfl) (by rfl) (there_of (heap_at2 _ _ _ _) (by rfl)) (by rw [envA_size]; exact Tryz.infoEnv) (env_all _) ?_))
  have hnd := sort_nodup t.fr
  have hln := sort_len t.fr
  refine name_world ?_
  intro W0 hW0
  have H0 : Hid (W0.heap[w.heap.size + 1]? = some (.cells #[Value.slice none 0 0, Value.slice none 0 0, Value.map (some w.heap.size)] 50 (0, 0)) ∧ FreeAt W0 w.heap.size 0 (sortL t.fr) [] ∧ EnvAt W0 (w.heap.size + 2) (fun _ => 0) ∧ Below w.heap.size w W0 ∧ W0.heap.size = w.heap.size + 3) := by
    rw [hW0]
    refine ⟨?_, ?_, ?_, ?_, ?_⟩
    · refine (setCells_far _ _ _ (by omega)).trans (blk_alloc ?_ _)
      have := heap_alloc_new (w.alloc (Obj.map #[] 0)) (Obj.cells #[Value.slice none 0 0, Value.slice none 0 0, Value.map (some w.heap.size)] 50)
      simpa using this
    · refine FreeAt.keep (w := w.alloc (Obj.map #[] 0)) ⟨.map [], World.ownsMap_made w Tryz.prog 5 (plainElem Tryz.prog 3), fun c => ⟨by simp [Maps.has], fun h => by simp at h⟩⟩ ?_
      refine (setCells_far _ _ _ (by omega)).trans ?_
      exact (Below.heap_alloc _ _ _ (by simp; omega)).trans (Below.heap_alloc _ _ _ (by simp))
    · exact EnvAt.cells (e := fun _ => 0) (heap_at2 _ _ _ _) (by rfl)
    · exact below_setCells (((((Below.refl _ _).alloc (Nat.le_refl _) _).alloc (by simp) _).alloc (by simp; omega)) _) (by omega) _ _
    · refine (setCells_same _ _ _ _).2.2.2.trans ?_
      simp
  clear hW0
  have hfr := free_any 901 t W0 Nt b (by omega) (by omega) hw (hl.below H0.out.2.2.2.1)
  simp only [Act.put]
  go_wp2_with fail
  refine hfr.mono ?_
  rintro e W1 ⟨rfl, x, hW1⟩
  have H1 : Hid (W1.heap[w.heap.size + 1]? = some (.cells #[Value.slice none 0 0, Value.slice none 0 0, Value.map (some w.heap.size)] 50 (0, 0)) ∧ FreeAt W1 w.heap.size 0 (sortL t.fr) [] ∧ EnvAt W1 (w.heap.size + 2) (fun _ => 0) ∧ Below w.heap.size w W1 ∧ W1.heap.size = w.heap.size + 3) := by
    rw [hW1]; exact ⟨H0.out.1, H0.out.2.1.keep rfl, H0.out.2.2.1.drewN _, pw_below_drewN H0.out.2.2.2.1 _, H0.out.2.2.2.2⟩
  clear hW1 hfr H0
  go_wp2_with fail
  refine (letters_calls t.fr W1).mono ?_
  rintro e w' ⟨rfl, rfl⟩
  obtain ⟨L, hL⟩ : ∃ L, L = sortL t.fr := ⟨_, rfl⟩
  have hlet : ∀ c, c ∈ L → isLet c = true := fun c hc => (sort_mem.mp (by rw [← hL]; exact hc)).1
  rw [← hL] at H1 hnd hln ⊢
  have hcv := Lib.run_convert_string_bytes (P := Tryz.prog) W1 9 22 5 (B L) Tryz.underlying9 Tryz.underlying22 Tryz.underlying5
  have hBz : (B L).size = L.length := B_size L
  have HWB : Hid (∀ W2, W2 = Lib.bytesWorld W1 5 (B L) → SO w W2 (w.heap.size + 4) (w.heap.size + 3) L 0 ∧ W2.heap.size = w.heap.size + 4) := by
    rintro W2 rfl
    have hb2 := below_bytes W1 5 (B L)
    have hs2 := Lib.bytesWorld_size W1 5 (B L)
    have hz := H1.out.2.2.2.2
    refine ⟨⟨⟨.slice none 0 0, .slice none 0 0, ⟨_, (hb2.block _ (by omega)).trans H1.out.1⟩, World.ownsRow_nil _ _ _ _, World.ownsRow_nil _ _ _ _, by omega, fun k hk => by simp [Value.ownBlock] at hk⟩, ?_, ?_, below_then H1.out.2.2.2.1 H1.out.2.2.2.1.size hb2, fun i hi => ?_, ⟨rfl, by omega⟩, by omega⟩, by omega⟩
    · rw [List.take_zero]; exact H1.out.2.1.keep (hb2.block _ (by omega))
    · have := H1.out.2.2.1.below hb2
      simpa using this
    · have := Lib.bytesWorld_cell W1 5 (B L) i (by rw [hBz]; exact hi)
      rw [hz, B_data] at this
      rw [this]
      simp [List.getD, hi, vl]
  rw [hBz] at hcv
  obtain ⟨W2, hW2⟩ : ∃ W2, W2 = Lib.bytesWorld W1 5 (B L) := ⟨_, rfl⟩
  rw [← hW2] at hcv
  obtain ⟨hso, hsz2⟩ := HWB.out W2 hW2
  have HSO := Lib.hid hso
  have hz := H1.out.2.2.2.2
  rw [hz] at hcv
  have HL2 := Lib.hid hL
  have HLT := Lib.hid hlet
  have HLL := Lib.hid hln
  have HND := Lib.hid hnd
  have HL := Lib.hid hl
  have HW := Lib.hid hw
  clear hW2 hso H1 HWB hz hL hlet hnd hl hw
  go_wp2_with fail
  go_loopw [16] (fun i wr => ∃ j : Nat, j ≤ L.length ∧ i = .int .i64 j ∧ SO w wr (w.heap.size + 4) (w.heap.size + 3) L j) (fun i _ => L.length - (intOf i).toNat)
  case atStart => exact ⟨0, Nat.zero_le _, rfl, HSO.out⟩
  case round =>
    obtain ⟨j, hj, rfl, hr⟩ := hrel
    have HR := Lib.hid hr
    clear hr
    by_cases hlt : j < L.length
    · have hcell := HR.out.row j hlt
      obtain ⟨i, hi, hvi, hti⟩ := let_index (HLT.out _ (List.getElem_mem hlt))
      rw [hvi] at hcell
      have HIX2 : Hid (∃ hj : j < L.length, L[j] = letAt i ∧ L.Nodup ∧ L.length ≤ 26) := ⟨hlt, hti, HND.out, HLL.out⟩
      have HVI := Lib.hid hvi
      obtain ⟨y1, y2, hsr0⟩ := HR.out.sr
      have HSR := Lib.hid hsr0
      have HPL : Hid (L[j] ∈ L.take (j + 1) ∧ Srt.place L L[j] = j) := ⟨by rw [List.take_succ_eq_append_getElem hlt]; exact List.mem_append_right _ (List.mem_singleton.mpr rfl), place_at HND.out hlt⟩
      clear hti hcv
      go_wp2_with fail
      refine start_ (n := 8) (S := fun w' => w'.cell? ⟨w.heap.size + 1, 2, none⟩ = some (.map (some w.heap.size))) (ds := [7]) #[false, false, false, false, false, false, false, false] (by kernel_rfl) rfl rfl (hsr0.c2) (fun hHeld => ?_)
      refine with_tabW sof_.tab5 sof_.bits5 (fun HT_ HW_ => ?_)
      have T : SO w wr.drew (w.heap.size + 4) (w.heap.size + 3) L j ∧ SrAt wr.drew (w.heap.size + 4) (w.heap.size + 1) y1 y2 [.map (some w.heap.size)] (Srt.many j) := ⟨HR.out.drew, HSR.out.drewN 1⟩
      generalize wr.drew = W3 at T hHeld ⊢
      refine pure_ (i := 0) (N := some 20) (v := ?_) (a' := ?_) #[true, false, false, false, false, false, false, false] rfl rfl (any_of HT_.out (by kernel_rfl)) (fun _ _ _ h => h) (Or.inl ⟨by rfl, ?_⟩) ?_ ?_
      rotate_left; (intro w'; go_simp; with_reducible rfl); rotate_left; (simp only [Act.put, List.setIfInBounds_toArray, List.set_cons_zero, List.set_cons_succ, i64_w, i32_w]; rfl)
      refine pure_ (i := 1) (N := some 21) (v := ?_) (a' := ?_) #[true, true, false, false, false, false, false, false] rfl rfl (any_of HT_.out (by kernel_rfl)) (fun _ _ _ h => h) (Or.inl ⟨by rfl, ?_⟩) ?_ ?_
      rotate_left; (intro w'; go_simp; with_reducible rfl); rotate_left; (simp only [Act.put, List.setIfInBounds_toArray, List.set_cons_zero, List.set_cons_succ, i64_w, i32_w]; rfl)
      refine pure_ (i := 2) (N := some 22) (v := ?_) (a' := ?_) #[true, true, true, false, false, false, false, false] rfl rfl (any_of HT_.out (by kernel_rfl)) (fun _ _ _ h => h) (Or.inl ⟨by rfl, ?_⟩) ?_ ?_
      rotate_left; (intro w'; go_simp; with_reducible rfl); rotate_left; (simp only [Act.put, List.setIfInBounds_toArray, List.set_cons_zero, List.set_cons_succ, i64_w, i32_w]; rfl)
      refine pure_ (i := 4) (N := some 24) (v := ?_) (a' := ?_) #[true, true, true, false, true, false, false, false] rfl rfl (any_of HT_.out (by kernel_rfl)) (fun _ _ _ h => h) (Or.inl ⟨by rfl, ?_⟩) ?_ ?_
      rotate_left; (intro w'; go_simp; with_reducible rfl); rotate_left; (simp only [Act.put, List.setIfInBounds_toArray, List.set_cons_zero, List.set_cons_succ, i64_w, i32_w]; rfl)
      refine pure_ (i := 5) (N := some 25) (v := ?_) (a' := ?_) #[true, true, true, false, true, true, false, false] rfl rfl (any_of HT_.out (by kernel_rfl)) (fun _ _ _ h => h) (Or.inl ⟨by rfl, ?_⟩) ?_ ?_
      rotate_left; (intro w'; go_simp; with_reducible rfl); rotate_left; (simp only [Act.put, List.setIfInBounds_toArray, List.set_cons_zero, List.set_cons_succ, i64_w, i32_w]; rfl)
      refine take_ (i := 3) (N := some 23) (v := ?_) (a' := ?_) #[true, true, true, true, true, true, false, false] rfl rfl (take_ofW HT_.out HW_.out (by kernel_rfl)) (fun _ _ _ h => h) (Or.inl ⟨by rfl, ?_⟩) hHeld ?_ ?_
      rotate_left; (intro w' s0; go_simp; with_reducible rfl); rotate_left; (simp only [Act.put, List.setIfInBounds_toArray, List.set_cons_zero, List.set_cons_succ, i64_w, i32_w]; rfl)
      refine one_ (i := 6) (N := some 26) #[true, true, true, true, true, true, true, false] rfl rfl (one_of HT_.out (by kernel_rfl)) (by decide) (fun K hK => ?_)
      refine goes_ Tryz.func49 (by kernel_rfl) rfl #[.pointer (some ⟨w.heap.size + 1, 0, none⟩)] (by rfl) rfl rfl (by simp only [List.map_toArray, List.map_cons, List.map_nil]; rfl) ?_
      with_reducible refine (new_calls T.2 (show (Srt.many j).n ≤ 1000000 by rw [Srt.many_n]; have := HLL.out; omega) T.1.nle).mono ?_
      rintro e W4 ⟨u1, u2, rfl, S1, F1⟩
      refine ⟨_, rfl, ?_⟩
      rw [Srt.many_n]
      have K4 := T.1.step T.2 F1 S1
      have HK4 := Lib.hid K4
      have hp0 := S1.c2
      clear T K4 S1 F1
      refine hK.out _ _ (hp0) (fun hHeld => ?_)
      clear hK K
      refine norm_ (a' := ?_) ?_ ?_
      rotate_left
      · show Act.put _ (some 26) _ = _
        simp only [Act.put, List.setIfInBounds_toArray, List.set_cons_zero, List.set_cons_succ, i64_w, i32_w]
        rfl
      refine last_ (i := 7) (N := none) #[true, true, true, true, true, true, true, true] rfl rfl (one_of HT_.out (by kernel_rfl)) (by decide) (fun K hK => ?_)
      obtain ⟨W5, hrun, hm5, hgr⟩ := HK4.out.update hi hvi ⟨hlt, rfl, HND.out, HLL.out⟩
      have HM5 := Lib.hid hm5
      have HGR := Lib.hid hgr
      clear hp0 hHeld hm5 hgr
      refine skip_ (w1 := W5) (by rfl) rfl ?_ ?_
      · go_simp
      refine hK.out _ _ ?_
      clear hK K
      refine done_ (done_of HT_.out (by kernel_rfl)) ?_
      have hW5 : ∀ x, x < W4.heap.size → x ≠ w.heap.size → W5.heap[x]? = W4.heap[x]? := fun x hx hn => HGR.out.block x hx fun e => by injection e with e; exact hn e
      have hsz4 := HK4.out.nle
      obtain ⟨x1, x2, hsr5⟩ := HK4.out.sr
      have hbg := hW5 (w.heap.size + 1) (by omega) (by omega)
      have c2 : W5.cell? ⟨w.heap.size + 1, 2, none⟩ = some (.map (some w.heap.size)) := (World.cell?_of_block hbg).trans hsr5.c2
      have hev : EnvAt W5 (w.heap.size + 2) (fun c => if c ∈ L.take j then Srt.place L c else 0) := HK4.out.env.keep (hW5 _ (by omega) (by omega))
      have k0 : W5.cell? ⟨w.heap.size + 1 + 1, i, none⟩ = _ := hev.cell hi
      have z0 : W5.frozen? ⟨w.heap.size + 1 + 1, i, none⟩ = false := hev.frozen i
      have hlook := HM5.out.look HPL.out.1 _ HVI.out
      rw [HPL.out.2] at hlook
      have e97 : ((97 : Int) + (i : Nat) - 97) = (i : Nat) := by omega
      have e98 : IntKind.u8.wrap ((i : Nat) : Int) = (i : Nat) := by rw [IntKind.wrap_u8]; omega
      have e99 : ((i : Nat) : Int) < 26 := by omega
      clear hW5 hbg hsr5 hev hsr0 hcell hrun hvi
      go_wp2_with fail
      go_roundw
      case rel => exact ⟨j + 1, by omega, by go_num, HK4.out.done hi HIX2.out HM5.out HGR.out⟩
      case measure => simp [intOf]; omega
    · have hjl : j = L.length := by omega
      subst hjl
      have hE : EnvAt wr (w.heap.size + 1 + 1) (Srt.place L) := by
        have := HR.out.env
        rw [List.take_length] at this
        have e2 : (fun c => if c ∈ L then Srt.place L c else 0) = Srt.place L := by
          funext c
          by_cases hc : c ∈ L
          · rw [if_pos hc]
          · rw [if_neg hc, place_no hc]
        rw [e2] at this
        exact this
      have HFM : Hid (FreeAt wr w.heap.size L.length L L) := by have := HR.out.mp; rwa [List.take_length] at this
      obtain ⟨y1, y2, hsr⟩ := HR.out.sr
      have HSR := Lib.hid hsr
      have hsc : Srt.Sc t.fr (Srt.place L) (Srt.many L.length) := by rw [HL2.out]; exact Srt.of_sc HW.out
      have hwk := swalk_any 900 t (Srt.place L) (Srt.many L.length) w wr Nt (w.heap.size + 4) (w.heap.size + 1) b y1 y2 [.map (some w.heap.size)] hs (by omega) HW.out HL.out HR.out.below (by omega) HR.out.nle hsr (Srt.many_ok _) hsc (by rw [Srt.many_n]; have := HLL.out; omega)
      have hU := Tryz.underlying73
      have hI : (Tryz.prog.info? 73).map (·.size) = some (envL (Srt.place L)).length := by rw [envL_len]; exact Tryz.infoEnv
      have HOF : Hid (Srt.walk t (Srt.place L) (Srt.many L.length) = Srt.of t) := by rw [Hid, HL2.out]; rfl
      clear hsr hsc hcv
      go_wp2_with (first | ((with_reducible refine gate_dst (N := 39) rfl ?_); refine wpList_load_mid (by rfl) 73 (.tmp 4) (by rfl) (w.heap.size + 1 + 1) 0 (by rfl) (envL (Srt.place L)) _ hE.range hU rfl hI ?_))
      refine hwk.mono ?_
      rintro e' W6 ⟨rfl, u1, u2, S6, F6⟩
      rw [HOF.out] at S6
      have HS6 := Lib.hid S6
      have HB6 := Lib.hid (HSR.out.belowOf F6 HR.out.below (by omega))
      have HM6 : Hid (FreeAt W6 w.heap.size 26 (sortL t.fr) (sortL t.fr)) := by
        have hn := HR.out.nle
        obtain ⟨D, ho, hD⟩ := HFM.out.keep (F6.block w.heap.size (by omega) (by omega) (fun q => by have := (HSR.out.r1.own q).1; omega) (fun q => by have := (HSR.out.r2.own q).1; omega))
        rw [← HL2.out]
        exact ⟨D, ho.mono HLL.out, hD⟩
      clear hwk S6 F6 hE hU hI
      go_wp2_with fail
      go_ret
      exact ⟨_, _, _, u1, u2, rfl, HS6.out, HM6.out, HB6.out, by omega⟩
end Go.Proofs.YtjgfgjhaghbehaaGreat
