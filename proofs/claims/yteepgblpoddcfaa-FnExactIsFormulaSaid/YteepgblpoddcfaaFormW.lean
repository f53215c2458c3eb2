/- The program's reader of formulas: it reads what pF reads, and lays it in new memory; and the depth of what lies there. -/
import Derived.Shelf.Strings.Prefix
import Derived.Test.YteepgblpoddcfaaFormP
import Derived.Test.YteepgblpoddcfaaIdx
import Derived.Test.YteepgblpoddcfaaPIsLabelx
import Derived.Test.YteepgblpoddcfaaWMore
import Derived.Lib.Hide
import Derived.Outline
namespace Go.Proofs
open Go.Shelf Go.Lib
def Try.lays99_ren : Go.Shelf.Ren := ⟨fun | 99 => 68 | 206 => 73 | n => n, fun | 9 => 9 | 4 => 4 | 3 => 3 | n => n, fun | n => n⟩
theorem Try.lays99 : Go.Proofs.Lays.n99 Try.prog Try.lays99_ren := {
  mixed := by kernel_rfl
  f99 := Try.func68.trans (congrArg some (by kernel_rfl))
  f206 := Try.func73.trans (congrArg some (by kernel_rfl))
  t3 := Try.underlying3
  a3 := Try.isAgg3
  z3 := Try.sizeOf3
  v3 := Try.zeroValue3
  t4 := Try.underlying4
  a4 := Try.isAgg4
  z4 := Try.sizeOf4
  v4 := Try.zeroValue4
  t9 := Try.underlying9
  a9 := Try.isAgg9
  z9 := Try.sizeOf9
  v9 := Try.zeroValue9 }
namespace Yteepgblpoddcfaa
open Go.RowKit Go.Proofs.YteepgblpoddcfaaW.PrintWords Go.Proofs.YteepgblpoddcfaaW.PrintLast Go.Proofs.YteepgblpoddcfaaW.PrintMore
set_option linter.unusedVariables false
set_option linter.unusedSimpArgs false

theorem pre_calls (l p : List UInt8) (w : World) : Calls Try.prog 68 #[.string (B l), .string (B p)] w fun e w' => e = .returned (.bool (Lib.hasPrefix l p)) ∧ w = w' := by
  refine (Any.strings_HasPrefix Try.lays99 (B l) (B p) w).mono ?_
  rintro e w' ⟨rfl, rfl⟩
  exact ⟨by rw [B_data, B_data], rfl⟩

section
open Go.Proofs.Yteepgblpoddcfaa.PIsLabel
theorem numEq (b c : UInt8) : ((b.toNat : Int) = (c.toNat : Int)) = (b = c) := by
  apply propext; rw [Int.ofNat_inj, UInt8.toNat_inj]
theorem label_f (l : List UInt8) (h : l.length ≤ 1048576) : impl_IsLabel.f 1 (B l) = some (labB l) := by
  have e33 (b : UInt8) : ((b.toNat : Int) = 33) = (b = 33) := numEq b 33
  have e63 (b : UInt8) : ((b.toNat : Int) = 63) = (b = 63) := numEq b 63
  match l with
  | [] => simp [impl_IsLabel.f, impl_IsLabel.j0, B_toList, B_size, labB]
  | [a] => 
    by_cases ha : a = 126 <;> simp [impl_IsLabel.f, impl_IsLabel.j0, B_toList, B_size, ha, labB]
  | [a, b] => simp [impl_IsLabel.f, impl_IsLabel.j0, B_toList, B_size, labB]
  | [a, b, c] =>
    by_cases h1 : 97 ≤ (a.toNat : Int) <;> by_cases h2 : (a.toNat : Int) ≤ 122 <;> by_cases h3 : 97 ≤ (c.toNat : Int) <;> by_cases h4 : (c.toNat : Int) ≤ 122 <;> by_cases h5 : b = 33 <;> by_cases h6 : b = 63 <;>
      simp [impl_IsLabel.f, impl_IsLabel.j0, impl_isLetter.f, B_toList, B_size, bt_B, B_extract, at_, vl, wrap64, e33, e63, h1, h2, h3, h4, h5, h6, labB, isLet]
  | [a, b, c, d] =>
    by_cases h1 : 97 ≤ (a.toNat : Int) <;> by_cases h2 : (a.toNat : Int) ≤ 122 <;> by_cases h3 : 97 ≤ (d.toNat : Int) <;> by_cases h4 : (d.toNat : Int) ≤ 122 <;> by_cases h5 : b = 33 <;> by_cases h6 : c = 35 <;>
      simp [impl_IsLabel.f, impl_IsLabel.j0, impl_isLetter.f, B_toList, B_size, bt_B, B_extract, at_, vl, wrap64, h1, h2, h3, h4, h5, h6, labB, isLet]
  | a :: b :: c :: d :: e :: l =>
    simp only [List.length_cons] at h
    have hw : wrap64 (((l.length + 1 + 1 + 1 + 1 + 1 : Nat) : Int) - 1) = (l.length : Int) + 4 := by
      rw [wrap_id (by omega) (by omega)]; omega
    have hj : ∀ x, impl_IsLabel.j0 1 (B (a :: b :: c :: d :: e :: l)) x = some false := by
      intro x
      have h4 : ((l.length : Int) + 4).toNat = l.length + 4 := by omega
      cases x with
      | true => rfl
      | false =>
        simp only [impl_IsLabel.j0, B_extract, B_toList, B_size, List.length_cons, hw, h4]
        rw [if_neg (by decide), if_pos (by omega), if_pos (by omega)]
        simp
    show _ = some false
    simp only [impl_IsLabel.f, hj]
    simp only [B_toList, B_size, impl_isLetter.f, List.length_cons, hw]
    rw [if_neg (by simp), if_neg (by omega), if_pos (by omega)]
    by_cases h1 : bt (B (a :: b :: c :: d :: e :: l)) 0 ≥ 97
    · rw [if_pos h1]
      by_cases h2 : bt (B (a :: b :: c :: d :: e :: l)) 0 ≤ 122
      · simp only [h2, decide_true, Option.bind_some, if_true]
        rw [if_pos (by omega), if_pos (by omega)]
        split <;> rfl
      · simp [h2]
    · rw [if_neg h1]; simp
theorem label_calls (l : List UInt8) (w : World) (h : l.length ≤ 1048576) : Calls Try.prog 16 #[.string (B l)] w fun e w' => e = .returned (.bool (labB l)) ∧ ∃ n, w' = w.drewN n :=
  (impl_IsLabel.calls 1 (B l) _ w (label_f l h)).mono fun e w' ⟨h, k⟩ => ⟨h, k.out⟩
end

def FNode (w : World) (b : Nat) (l : List UInt8) (k : UInt8) (s : Value) : Prop := ∃ e, w.heap[b]? = some (.cells #[.string (B l), .int .u8 (vl k), s] e (0, 0))
def FOne (w : World) (N : Nat) (l : List UInt8) (k : UInt8) (P : Nat → Prop) (b : Nat) : Prop :=
  N ≤ b ∧ ∃ r cap x, N ≤ r ∧ FNode w b l k (.slice (some ⟨r, 0, none⟩) 1 cap) ∧ Kid w r 0 x ∧ P x
def FLies (w : World) (N : Nat) : Fm → Nat → Prop
  | .tt, b => N ≤ b ∧ ∃ o cap, FNode w b [] 84 (.slice o 0 cap)
  | .neg f, b => FOne w N [] 33 (fun x => FLies w N f x) b
  | .lab l f, b => FOne w N l 60 (fun x => FLies w N f x) b
  | .conj f g, b => N ≤ b ∧ ∃ r cap x y, N ≤ r ∧ FNode w b [] 40 (.slice (some ⟨r, 0, none⟩) 2 cap) ∧ Kid w r 0 x ∧ Kid w r 1 y ∧ FLies w N f x ∧ FLies w N g y
theorem FNode.keep {w w' : World} {b : Nat} {l : List UInt8} {k : UInt8} {s : Value} (h : FNode w b l k s) (hk : w'.heap[b]? = w.heap[b]?) : FNode w' b l k s := by
  obtain ⟨e, h⟩ := h; exact ⟨e, hk.trans h⟩
theorem FNode.lt {w : World} {b : Nat} {l : List UInt8} {k : UInt8} {s : Value} (h : FNode w b l k s) : b < w.heap.size := by obtain ⟨e, h⟩ := h; exact blk_lt h
theorem FNode.cells {w : World} {b : Nat} {l : List UInt8} {k : UInt8} {s : Value} (h : FNode w b l k s) :
    w.cell? ⟨b, 0, none⟩ = some (.string (B l)) ∧ w.cell? ⟨b, 1, none⟩ = some (.int .u8 (vl k)) ∧ w.cell? ⟨b, 2, none⟩ = some s ∧ ∀ i, w.frozen? ⟨b, i, none⟩ = false := by
  obtain ⟨e, h⟩ := h
  exact ⟨blk_cell h 0, blk_cell h 1, blk_cell h 2, fun i => blk_frozen h i⟩
theorem FOne.keep {w w' : World} {N : Nat} {l : List UInt8} {k : UInt8} {P Q : Nat → Prop} {b : Nat} (h : FOne w N l k P b) (hk : ∀ i, N ≤ i → i < w.heap.size → w'.heap[i]? = w.heap[i]?) (hp : ∀ x, P x → Q x) : FOne w' N l k Q b := by
  obtain ⟨h0, r, cap, x, h1, h2, h3, h4⟩ := h
  exact ⟨h0, r, cap, x, h1, h2.keep (hk _ h0 h2.lt), h3.keep (hk _ h1 h3.lt), hp x h4⟩
theorem FLies.keep {w w' : World} {N : Nat} (hk : ∀ i, N ≤ i → i < w.heap.size → w'.heap[i]? = w.heap[i]?) : ∀ {f : Fm} {b : Nat}, FLies w N f b → FLies w' N f b
  | .tt, _, ⟨h0, o, cap, h⟩ => ⟨h0, o, cap, h.keep (hk _ h0 h.lt)⟩
  | .neg f, _, h => FOne.keep (P := fun x => FLies w N f x) h hk fun x hx => FLies.keep hk hx
  | .lab l f, _, h => FOne.keep (P := fun x => FLies w N f x) h hk fun x hx => FLies.keep hk hx
  | .conj f g, _, ⟨h0, r, cap, x, y, h1, h2, h3, h4, h5, h6⟩ => ⟨h0, r, cap, x, y, h1, h2.keep (hk _ h0 h2.lt), h3.keep (hk _ h1 h3.lt), h4.keep (hk _ h1 h4.lt), FLies.keep hk h5, FLies.keep hk h6⟩
theorem FLies.mono {w : World} {N N' : Nat} (hN : N' ≤ N) : ∀ {f : Fm} {b : Nat}, FLies w N f b → FLies w N' f b
  | .tt, _, ⟨h0, o, cap, h⟩ => ⟨by omega, o, cap, h⟩
  | .neg f, _, ⟨h0, r, cap, x, h1, h2, h3, h4⟩ => ⟨by omega, r, cap, x, by omega, h2, h3, FLies.mono hN h4⟩
  | .lab l f, _, ⟨h0, r, cap, x, h1, h2, h3, h4⟩ => ⟨by omega, r, cap, x, by omega, h2, h3, FLies.mono hN h4⟩
  | .conj f g, _, ⟨h0, r, cap, x, y, h1, h2, h3, h4, h5, h6⟩ => ⟨by omega, r, cap, x, y, by omega, h2, h3, h4, FLies.mono hN h5, FLies.mono hN h6⟩
theorem FLies.drew {w : World} {N : Nat} {f : Fm} {b : Nat} (h : FLies w N f b) : FLies w.drew N f b := FLies.keep (w := w) (w' := w.drew) (fun _ _ _ => rfl) h
theorem FLies.at {w : World} {N : Nat} {f : Fm} {b : Nat} (h : FLies w N f b) :
    ∃ o cap, w.cell? ⟨b, 1, none⟩ = some (.int .u8 (vl f.kind)) ∧ w.cell? ⟨b, 2, none⟩ = some (.slice o f.kids.length cap) ∧
      ∀ i, (hi : i < f.kids.length) → ∃ r x, o = some ⟨r, 0, none⟩ ∧ w.cell? ⟨r, i, none⟩ = some (.pointer (some ⟨x, 0, none⟩)) ∧ FLies w N f.kids[i] x := by
  cases f with
  | tt => obtain ⟨_, o, cap, h⟩ := h; exact ⟨o, cap, h.cells.2.1, h.cells.2.2.1, fun i hi => by simp [Fm.kids] at hi⟩
  | neg f =>
    obtain ⟨_, r, cap, x, _, h, h2, h3⟩ := h
    refine ⟨_, cap, h.cells.2.1, h.cells.2.2.1, fun i hi => ?_⟩
    simp [Fm.kids] at hi; subst hi
    exact ⟨r, x, rfl, h2.cell, h3⟩
  | lab l f =>
    obtain ⟨_, r, cap, x, _, h, h2, h3⟩ := h
    refine ⟨_, cap, h.cells.2.1, h.cells.2.2.1, fun i hi => ?_⟩
    simp [Fm.kids] at hi; subst hi
    exact ⟨r, x, rfl, h2.cell, h3⟩
  | conj f g =>
    obtain ⟨_, r, cap, x, y, _, h, h2, h2', h3, h4⟩ := h
    refine ⟨_, cap, h.cells.2.1, h.cells.2.2.1, fun i hi => ?_⟩
    have hi' : i < 2 := hi
    rcases (show i = 0 ∨ i = 1 from by omega) with rfl | rfl
    · exact ⟨r, x, rfl, h2.cell, h3⟩
    · exact ⟨r, y, rfl, h2'.cell, h4⟩

def ReadF (w : World) (o : Option (Fm × List UInt8)) (e : Ending) (w' : World) : Prop :=
  Below w.heap.size w w' ∧ ∃ q t, e = .returned (.tuple #[.pointer q, .string t, .bool o.isSome]) ∧ ∀ f r, o = some (f, r) → ∃ b, q = some ⟨b, 0, none⟩ ∧ t = B r ∧ FLies w' w.heap.size f b

structure MidF (w w1 : World) (l : List UInt8) (k : UInt8) (s : Value) : Prop where
  hb : Below w.heap.size w w1
  no : FNode w1 w.heap.size l k s
theorem MidF.start (w : World) (k : UInt8) (e : TypeId) : MidF w (w.alloc (.cells #[.string (B []), .int .u8 (vl k), .slice none 0 0] e)) [] k (.slice none 0 0) :=
  ⟨below_alloc (Below.refl _ _) _, e, by simpa using heap_alloc_new w _⟩
theorem MidF.call {w w1 w2 : World} {l : List UInt8} {k : UInt8} {s : Value} (h : MidF w w1 l k s) (hb : Below w1.heap.size w1 w2) : MidF w w2 l k s :=
  ⟨below_then h.hb h.hb.size hb, h.no.keep (hb.block _ h.no.lt)⟩
theorem MidF.set0 {w w1 : World} {l : List UInt8} {k : UInt8} {s : Value} (h : MidF w w1 l k s) (l2 : List UInt8) : MidF w (w1.setCell ⟨w.heap.size, 0, none⟩ (.string (B l2))) l2 k s := by
  obtain ⟨hb, e, hn⟩ := h
  exact ⟨below_set hb (Nat.le_refl _), e, blk_set hn 0 _⟩
theorem MidF.set2 {w w1 : World} {l : List UInt8} {k : UInt8} {s : Value} (h : MidF w w1 l k s) (u : Value) : MidF w (w1.setCell ⟨w.heap.size, 2, none⟩ u) l k u := by
  obtain ⟨hb, e, hn⟩ := h
  exact ⟨below_set hb (Nat.le_refl _), e, blk_set hn 2 _⟩
theorem MidF.alloc {w w1 : World} {l : List UInt8} {k : UInt8} {s : Value} (h : MidF w w1 l k s) (o : Obj) : MidF w (w1.alloc o) l k s :=
  ⟨below_alloc h.hb o, h.no.keep (Below.heap_alloc _ _ _ h.no.lt)⟩

theorem heapAt (w : World) (o : Obj) (n : Nat) (h : n = w.heap.size) : (w.alloc o).heap[n]? = some o := by subst h; exact heap_alloc_new w o
theorem MidF.fin1 {w w1 w5 : World} {l : List UInt8} {k : UInt8} {s : Value} (h : MidF w w1 l k s) (hb : Below w1.heap.size w1 w5) (q : Option Addr) (e : TypeId) :
    Below w.heap.size w ((w5.setCell ⟨w.heap.size, 2, none⟩ (.slice (some ⟨w5.heap.size, 0, none⟩) 1 1)).alloc (.cells #[.pointer q] e)) ∧
    ∀ (f : Fm) (b : Nat), q = some ⟨b, 0, none⟩ → FLies w5 w1.heap.size f b → FOne ((w5.setCell ⟨w.heap.size, 2, none⟩ (.slice (some ⟨w5.heap.size, 0, none⟩) 1 1)).alloc (.cells #[.pointer q] e)) w.heap.size l k (fun x => FLies ((w5.setCell ⟨w.heap.size, 2, none⟩ (.slice (some ⟨w5.heap.size, 0, none⟩) 1 1)).alloc (.cells #[.pointer q] e)) w.heap.size f x) w.heap.size := by
  have M := ((h.call hb).set2 (.slice (some ⟨w5.heap.size, 0, none⟩) 1 1)).alloc (.cells #[.pointer q] e)
  have hz : (w5.setCell ⟨w.heap.size, 2, none⟩ (.slice (some ⟨w5.heap.size, 0, none⟩) 1 1)).heap.size = w5.heap.size := by simp [World.setCell]
  have ho := h.no.lt
  have hs := hb.size
  refine ⟨M.hb, fun f b hq hl => ⟨Nat.le_refl _, w5.heap.size, 1, b, by omega, M.no, ⟨_, e, heapAt _ _ _ hz.symm, by rw [hq]; rfl⟩, ?_⟩⟩
  refine FLies.mono (by omega) (FLies.keep (fun i hi hi' => ?_) hl)
  exact (Below.heap_alloc _ _ _ (by rw [hz]; exact hi')).trans (Below.heap_setCell _ _ _ _ (by simp; omega))
theorem MidF.fin2 {w w1 w2 w5 : World} {l : List UInt8} {k : UInt8} {s : Value} (h : MidF w w1 l k s) (hb2 : Below w1.heap.size w1 w2) (hb : Below w2.heap.size w2 w5) (b1 b2 : Nat) (e : TypeId) (f g : Fm)
    (hf : FLies w2 w1.heap.size f b1) (hg : FLies w5 w2.heap.size g b2) (hk : k = 40) (hl0 : l = []) :
    Below w.heap.size w ((w5.setCell ⟨w.heap.size, 2, none⟩ (.slice (some ⟨w5.heap.size, 0, none⟩) 2 2)).alloc (.cells #[.pointer (some ⟨b1, 0, none⟩), .pointer (some ⟨b2, 0, none⟩)] e)) ∧
    FLies ((w5.setCell ⟨w.heap.size, 2, none⟩ (.slice (some ⟨w5.heap.size, 0, none⟩) 2 2)).alloc (.cells #[.pointer (some ⟨b1, 0, none⟩), .pointer (some ⟨b2, 0, none⟩)] e)) w.heap.size (.conj f g) w.heap.size := by
  subst hk hl0
  have M := (((h.call hb2).call hb).set2 (.slice (some ⟨w5.heap.size, 0, none⟩) 2 2)).alloc (.cells #[.pointer (some ⟨b1, 0, none⟩), .pointer (some ⟨b2, 0, none⟩)] e)
  have hz : (w5.setCell ⟨w.heap.size, 2, none⟩ (.slice (some ⟨w5.heap.size, 0, none⟩) 2 2)).heap.size = w5.heap.size := by simp [World.setCell]
  have ho := h.no.lt
  have hs2 := hb2.size
  have hs := hb.size
  have hrow := heapAt (w5.setCell ⟨w.heap.size, 2, none⟩ (.slice (some ⟨w5.heap.size, 0, none⟩) 2 2)) (.cells #[.pointer (some ⟨b1, 0, none⟩), .pointer (some ⟨b2, 0, none⟩)] e) _ hz.symm
  have hla : ∀ {N : Nat} {u : Fm} {b : Nat}, w.heap.size < N → FLies w5 N u b → FLies ((w5.setCell ⟨w.heap.size, 2, none⟩ (.slice (some ⟨w5.heap.size, 0, none⟩) 2 2)).alloc (.cells #[.pointer (some ⟨b1, 0, none⟩), .pointer (some ⟨b2, 0, none⟩)] e)) w.heap.size u b := fun hN hu => by
    refine FLies.mono (Nat.le_of_lt hN) (FLies.keep (fun i hi hi' => ?_) hu)
    exact (Below.heap_alloc _ _ _ (by rw [hz]; exact hi')).trans (Below.heap_setCell _ _ _ _ (by simp; omega))
  refine ⟨M.hb, Nat.le_refl _, w5.heap.size, 2, b1, b2, by omega, M.no, ⟨_, e, hrow, rfl⟩, ⟨_, e, hrow, rfl⟩, hla ho ?_, hla (by omega) hg⟩
  exact FLies.keep (fun i hi hi' => hb.block i hi') hf

theorem MidF.drewN {w w1 : World} {l : List UInt8} {k : UInt8} {s : Value} (h : MidF w w1 l k s) (m : Nat) : MidF w (w1.drewN m) l k s :=
  ⟨pw_below_drewN h.hb m, h.no.keep rfl⟩
def ReadUpto (n : Nat) : Prop := ∀ (l : List UInt8) (w : World), l.length ≤ n → Calls Try.prog 60 #[.string (B l)] w (ReadF w (pF n l))

theorem read_nil (w : World) : Calls Try.prog 60 #[.string (B [])] w (ReadF w none) := by
  have h1 : (B []).toList.isEmpty = true := by rw [B_toList]; rfl
  go_enter Try.func60, Try.ntmps60
  go_wp2_with fail
  go_ret3
  exact ⟨Below.refl _ _, none, _, rfl, fun _ _ h => by cases h⟩
theorem cons_facts (c : UInt8) (l : List UInt8) (v : Int) (hv : vl c = v) : ∃ h : 0 < (B (c :: l)).size, (B (c :: l)).toList.isEmpty = false ∧ 1 ≤ (B (c :: l)).size ∧ (((B (c :: l))[0]'h).toNat : Int) = v ∧ (B (c :: l)).extract 1 (B (c :: l)).size = B l :=
  ⟨by rw [B_size]; simp, by rw [B_toList]; rfl, by rw [B_size]; simp, by rw [← hv]; rfl, by rw [B_extract, B_size]; simp⟩
theorem read_tt (l : List UInt8) (w : World) : Calls Try.prog 60 #[.string (B (84 :: l))] w (ReadF w (some (.tt, l))) := by
  have M0 := MidF.start w 84 59
  obtain ⟨h2, h1, h3, h4, h5⟩ := cons_facts 84 l 84 rfl
  go_enter Try.func60, Try.ntmps60
  go_wp2_with fail
  go_ret3
  exact ⟨M0.hb, _, _, rfl, fun f r h => by cases h; exact ⟨_, rfl, rfl, Nat.le_refl _, _, _, M0.no⟩⟩
theorem read_other (c : UInt8) (l : List UInt8) (w : World) (n1 : c ≠ 84) (n2 : c ≠ 33) (n3 : c ≠ 60) (n4 : c ≠ 40) : Calls Try.prog 60 #[.string (B (c :: l))] w (ReadF w none) := by
  have M0 := MidF.start w c 59
  obtain ⟨h2, h1, h3, h4, h5⟩ := cons_facts c l (vl c) rfl
  have e1 : (vl c == 84) = false := by rw [beq_eq_false_iff_ne]; exact fun h => n1 (vl_inj.mp (h.trans rfl))
  have e2 : (vl c == 33) = false := by rw [beq_eq_false_iff_ne]; exact fun h => n2 (vl_inj.mp (h.trans rfl))
  have e3 : (vl c == 60) = false := by rw [beq_eq_false_iff_ne]; exact fun h => n3 (vl_inj.mp (h.trans rfl))
  have e4 : (vl c == 40) = false := by rw [beq_eq_false_iff_ne]; exact fun h => n4 (vl_inj.mp (h.trans rfl))
  clear n1 n2 n3 n4
  go_enter Try.func60, Try.ntmps60
  go_wp2_with fail
  go_ret3
  exact ⟨M0.hb, _, _, rfl, fun f r h => by cases h⟩
theorem read_neg (n : Nat) (l : List UInt8) (w : World) (hl : l.length ≤ n) (ih : ReadUpto n) : Calls Try.prog 60 #[.string (B (33 :: l))] w (ReadF w ((pF n l).map fun x => (.neg x.1, x.2))) := by
  have M0 := MidF.start w 33 59
  obtain ⟨h2, h1, h3, h4, h5⟩ := cons_facts 33 l 33 rfl
  go_enter Try.func60, Try.ntmps60
  go_wp2_with fail
  refine (ih l _ hl).mono ?_
  rintro e w5 ⟨hb, q, t, rfl, hq⟩
  have FIN := Lib.hid (M0.fin1 hb q 37)
  have HQ := Lib.hid hq
  obtain ⟨q0, q1, q2, qf⟩ := (M0.call hb).no.cells
  have ho := (M0.call hb).no.lt
  clear hq hb M0
  go_wp2_with fail
  go_ret3
  refine ⟨FIN.out.1, some ⟨w.heap.size, 0, none⟩, t, by rw [Option.isSome_map]; rfl, fun f r h => ?_⟩
  rcases hp : pF n l with _ | ⟨g, r'⟩
  · rw [hp] at h; cases h
  · rw [hp] at h
    injection h with h; injection h with h6 h7
    subst h6 h7
    obtain ⟨b, e1, e2, e3⟩ := HQ.out g r' hp
    exact ⟨_, rfl, e2, FIN.out.2 g b e1 e3⟩
theorem read_lab (n : Nat) (l : List UInt8) (w : World) (hl : l.length ≤ n) (hn : n ≤ 1000) (ih : ReadUpto n) (o : Option (Fm × List UInt8))
    (ho : Hid (o = if 0 ≤ Lib.indexByte l 62 ∧ labB (l.take (Lib.indexByte l 62).toNat) = true then (pF n (l.drop ((Lib.indexByte l 62).toNat + 1))).map fun x => (.lab (l.take (Lib.indexByte l 62).toNat) x.1, x.2) else none)) :
    Calls Try.prog 60 #[.string (B (60 :: l))] w (ReadF w o) := by
  have M0 := MidF.start w 60 59
  obtain ⟨h2, h1, h3, h4, h5⟩ := cons_facts 60 l 60 rfl
  go_enter Try.func60, Try.ntmps60
  go_wp2_with fail
  refine (idx_calls l 62 _).mono ?_
  rintro e w2 ⟨rfl, rfl⟩
  by_cases h6 : 0 ≤ Lib.indexByte l 62
  · obtain ⟨j, hj⟩ : ∃ j : Nat, Lib.indexByte l 62 = j := ⟨(Lib.indexByte l 62).toNat, by omega⟩
    have hjl := (List.getElem?_eq_some_iff.mp (Lib.indexByte_some hj).1).1
    rw [hj, Int.toNat_natCast] at ho
    rw [hj]
    clear h6 hj
    have g1 : ¬ ((j : Nat) : Int) < 0 := by omega
    have hz : (B l).size = l.length := B_size l
    have g2 : j ≤ (B l).size := by omega
    have g3 : (B l).extract 0 j = B (l.take j) := by rw [B_extract]; rfl
    go_wp2_with fail
    refine (label_calls (l.take j) _ (by simp; omega)).mono ?_
    rintro e w2 ⟨rfl, m, rfl⟩
    have M1 := M0.drewN m
    clear M0
    rcases hb : labB (l.take j) with _ | _
    · have HN : Hid (o = none) := ho.out.trans (if_neg fun h => by rw [hb] at h; exact absurd h.2 (by decide))
      clear hb
      go_wp2_with fail
      go_ret3
      rw [HN.out]
      exact ⟨M1.hb, _, _, rfl, fun f r h => by cases h⟩
    · have HN : Hid (o = (pF n (l.drop (j + 1))).map fun x => (.lab (l.take j) x.1, x.2)) := ho.out.trans (if_pos ⟨by omega, hb⟩)
      clear hb
      have g4 : j + 1 ≤ (B l).size := by omega
      have g5 : (B l).extract (j + 1) l.length = B (l.drop (j + 1)) := by rw [B_extract, List.take_of_length_le (Nat.le_refl _)]
      have g6 : wrap64 ((j : Int) + 1) = ((j + 1 : Nat) : Int) := by rw [wrap_id (by omega) (by omega)]; omega
      have g7 : IntKind.i64.wrap ((j : Int) + 1) = ((j + 1 : Nat) : Int) := (i64_w _).trans g6
      have M2 := (M1.drewN 1).set0 (l.take j)
      have hlen : (l.drop (j + 1)).length ≤ n := by rw [List.length_drop]; omega
      obtain ⟨q0, q1, q2, qf⟩ := M1.no.cells
      go_wp2_with fail
      go_region
      clear q0 q1 q2 qf M1
      go_wp2_with fail
      refine (ih _ _ hlen).mono ?_
      rintro e w5 ⟨hb, q, t, rfl, hq⟩
      have FIN := Lib.hid (M2.fin1 hb q 37)
      have HQ := Lib.hid hq
      obtain ⟨q0, q1, q2, qf⟩ := (M2.call hb).no.cells
      have ho := (M2.call hb).no.lt
      clear hq hb M2
      go_wp2_with fail
      go_ret3
      rw [HN.out]
      refine ⟨FIN.out.1, some ⟨w.heap.size, 0, none⟩, t, by rw [Option.isSome_map]; rfl, fun f r h => ?_⟩
      rcases hp : pF n (l.drop (j + 1)) with _ | ⟨g, r'⟩
      · rw [hp] at h; cases h
      · rw [hp] at h
        injection h with h; injection h with h6 h7
        subst h6 h7
        obtain ⟨b, e1, e2, e3⟩ := HQ.out g r' hp
        exact ⟨_, rfl, e2, FIN.out.2 g b e1 e3⟩
  · have HN : Hid (o = none) := ho.out.trans (if_neg fun h => h6 h.1)
    have h7 : Lib.indexByte l 62 < 0 := by omega
    go_wp2_with fail
    go_ret3
    rw [HN.out]
    exact ⟨M0.hb, _, _, rfl, fun f r h => by cases h⟩

theorem pre_cons (c d : UInt8) (l : List UInt8) : Lib.hasPrefix (d :: l) [c] = (c == d) := by simp [Lib.hasPrefix, List.isPrefixOf]
def cnj3 (f : Fm) (y : Fm × List UInt8) : Option (Fm × List UInt8) := match y.2 with | [] => none | e :: r3 => if e = 41 then some (.conj f y.1, r3) else none
def cnj2 (n : Nat) (f : Fm) : List UInt8 → Option (Fm × List UInt8)
  | [] => none
  | d :: r2 => if d = 38 then (pF n r2).bind (cnj3 f) else none
theorem cnj3_cons (f g : Fm) (e : UInt8) (r : List UInt8) : cnj3 f (g, e :: r) = if e = 41 then some (.conj f g, r) else none := rfl
theorem cnj2_cons (n : Nat) (f : Fm) (d : UInt8) (r : List UInt8) : cnj2 n f (d :: r) = if d = 38 then (pF n r).bind (cnj3 f) else none := rfl
def cnjR (n : Nat) (l : List UInt8) : Option (Fm × List UInt8) := (pF n l).bind fun x => cnj2 n x.1 x.2
theorem read_conj (n : Nat) (l : List UInt8) (w : World) (hl : l.length ≤ n) (hn : n ≤ 1000) (ih : ReadUpto n) (o : Option (Fm × List UInt8)) (ho : Hid (o = cnjR n l)) :
    Calls Try.prog 60 #[.string (B (40 :: l))] w (ReadF w o) := by
  have M0 := MidF.start w 40 59
  obtain ⟨h2, h1, h3, h4, h5⟩ := cons_facts 40 l 40 rfl
  go_enter Try.func60, Try.ntmps60
  go_wp2_with fail
  refine (ih l _ hl).mono ?_
  rintro e w2 ⟨hb2, q, t, rfl, hq⟩
  have HB2 := Lib.hid hb2
  have HM := Lib.hid M0
  rcases hp : pF n l with _ | ⟨f, r⟩
  · have HN : Hid (o = none) := ho.out.trans (by unfold cnjR; rw [hp]; rfl)
    have hs : (none : Option (Fm × List UInt8)).isSome = false := rfl
    clear hp hq hb2 M0
    go_wp2_with fail
    go_ret3
    rw [HN.out]
    exact ⟨(HM.out.call HB2.out).hb, _, _, rfl, fun f r h => by cases h⟩
  obtain ⟨b1, rfl, rfl, hf1⟩ := hq f r hp
  have hs : (some (f, r) : Option (Fm × List UInt8)).isSome = true := rfl
  have HF1 := Lib.hid hf1
  have hrl : r.length ≤ n := by have := congrArg List.length (pF_good _ _ _ _ hp).1; rw [List.length_append] at this; omega
  have HO : Hid (o = cnj2 n f r) := ho.out.trans (by unfold cnjR; rw [hp]; rfl)
  clear ho hp hq hb2 M0 hf1
  go_wp2_with fail
  refine (pre_calls r [38] _).mono ?_
  rintro e w3 ⟨rfl, rfl⟩
  by_cases hpre : Lib.hasPrefix r [38] = true
  · obtain ⟨r2, rfl⟩ : ∃ r2, r = 38 :: r2 := by
      cases r with
      | nil => exact absurd hpre (by decide)
      | cons d r2 => exact ⟨r2, by rw [pre_cons, beq_iff_eq] at hpre; rw [← hpre]⟩
    rw [hpre]
    obtain ⟨k2, k1, k3, k4, k5⟩ := cons_facts 38 r2 38 rfl
    have hrl2 : r2.length ≤ n := by simp only [List.length_cons] at hrl; omega
    clear hpre k4
    go_wp2_with fail
    refine (ih r2 _ hrl2).mono ?_
    rintro e w4 ⟨hb4, q2, t2, rfl, hq2⟩
    have HB4 := Lib.hid hb4
    rcases hp : pF n r2 with _ | ⟨g, r3⟩
    · have HN : Hid (o = none) := HO.out.trans (by rw [cnj2_cons, if_pos rfl, hp]; rfl)
      have hs2 : (none : Option (Fm × List UInt8)).isSome = false := rfl
      clear hp hq2 hb4
      go_wp2_with fail
      go_ret3
      rw [HN.out]
      exact ⟨((HM.out.call HB2.out).call HB4.out).hb, _, _, rfl, fun f r h => by cases h⟩
    obtain ⟨b2, rfl, rfl, hf2⟩ := hq2 g r3 hp
    have hs2 : (some (g, r3) : Option (Fm × List UInt8)).isSome = true := rfl
    have HF2 := Lib.hid hf2
    have HO2 : Hid (o = cnj3 f (g, r3)) := HO.out.trans (by rw [cnj2_cons, if_pos rfl, hp]; rfl)
    clear hp hq2 hb4 hf2 HO
    go_wp2_with fail
    refine (pre_calls r3 [41] _).mono ?_
    rintro e w5 ⟨rfl, rfl⟩
    by_cases hpre : Lib.hasPrefix r3 [41] = true
    · obtain ⟨r4, rfl⟩ : ∃ r4, r3 = 41 :: r4 := by
        cases r3 with
        | nil => exact absurd hpre (by decide)
        | cons d r2 => exact ⟨r2, by rw [pre_cons, beq_iff_eq] at hpre; rw [← hpre]⟩
      rw [hpre]
      obtain ⟨m2, m1, m3, m4, m5⟩ := cons_facts 41 r4 41 rfl
      have HN : Hid (o = some (.conj f g, r4)) := HO2.out.trans (by rw [cnj3_cons, if_pos rfl])
      have FIN := Lib.hid (HM.out.fin2 HB2.out HB4.out b1 b2 37 f g HF1.out HF2.out rfl rfl)
      obtain ⟨q0, q1, q2, qf⟩ := ((HM.out.call HB2.out).call HB4.out).no.cells
      have ho := ((HM.out.call HB2.out).call HB4.out).no.lt
      clear hpre m4
      go_wp2_with fail
      go_region
      go_wp2_with fail
      go_ret3
      rw [HN.out]
      exact ⟨pw_below_drewN FIN.out.1 _, _, _, rfl, fun f r h => by cases h; exact ⟨_, rfl, rfl, FLies.drew FIN.out.2⟩⟩
    · have hpf : Lib.hasPrefix r3 [41] = false := by simpa using hpre
      rw [hpf]
      have HN : Hid (o = none) := HO2.out.trans (by
        cases r3 with
        | nil => rfl
        | cons d r2 =>
          rw [cnj3_cons]
          rw [pre_cons, beq_eq_false_iff_ne] at hpf
          rw [if_neg (fun h => hpf h.symm)])
      clear hpre hpf
      go_wp2_with fail
      go_ret3
      rw [HN.out]
      exact ⟨((HM.out.call HB2.out).call HB4.out).hb, _, _, rfl, fun f r h => by cases h⟩
  · have hpf : Lib.hasPrefix r [38] = false := by simpa using hpre
    rw [hpf]
    have HN : Hid (o = none) := HO.out.trans (by
      cases r with
      | nil => rfl
      | cons d r2 =>
        rw [cnj2_cons]
        rw [pre_cons, beq_eq_false_iff_ne] at hpf
        rw [if_neg (fun h => hpf h.symm)])
    clear hpre hpf
    go_wp2_with fail
    go_ret3
    rw [HN.out]
    exact ⟨(HM.out.call HB2.out).hb, _, _, rfl, fun f r h => by cases h⟩
theorem readF_calls : ∀ n, n ≤ 1000 → ReadUpto n := by
  intro n
  induction n with
  | zero =>
    intro _ l w hl
    obtain rfl : l = [] := List.length_eq_zero_iff.mp (by omega)
    exact read_nil w
  | succ n ih =>
    intro hn l w hl
    have ih := ih (by omega)
    cases l with
    | nil => exact read_nil w
    | cons c l =>
      have hl' : l.length ≤ n := by simp only [List.length_cons] at hl; omega
      rw [pF]
      by_cases h1 : c = 84
      · rw [if_pos h1, h1]; exact read_tt l w
      rw [if_neg h1]
      by_cases h2 : c = 33
      · rw [if_pos h2, h2]; exact read_neg n l w hl' ih
      rw [if_neg h2]
      by_cases h3 : c = 60
      · rw [if_pos h3, h3]; exact read_lab n l w hl' (by omega) ih _ rfl
      rw [if_neg h3]
      by_cases h4 : c = 40
      · rw [if_pos h4, h4]; exact read_conj n l w hl' (by omega) ih _ rfl
      · rw [if_neg h4]; exact read_other c l w h1 h2 h3 h4

def OfPost (w : World) (l : List UInt8) (e : Ending) (w' : World) : Prop :=
  Below w.heap.size w w' ∧ ∃ q, e = .returned (.tuple #[.pointer q, .bool (fmOf l).isSome]) ∧ ∀ f, fmOf l = some f → ∃ b, q = some ⟨b, 0, none⟩ ∧ FLies w' w.heap.size f b
set_option maxHeartbeats 1000000 in
theorem formulaOf_calls (l : List UInt8) (w : World) (hl : l.length ≤ 140737488351232) :
    Calls Try.prog 47 #[.string (B l)] w (OfPost w l) := by
  have hz : (B l).size = l.length := B_size l
  by_cases h4 : l.length ≤ 400
  · have h5 : (B l).size ≤ 400 := by omega
    have h6 : ((B l).size : Int) ≤ 400 := by omega
    have h7 : ¬ 400 < ((B l).size : Int) := by omega
    have HC := Lib.hid (readF_calls l.length (by omega) l)
    go_enter Try.func47, Try.ntmps47
    go_wp2_with fail
    refine (HC.out w (Nat.le_refl _)).mono ?_
    rintro e w2 ⟨hb2, q, t, rfl, hq⟩
    rcases hp : pF l.length l with _ | ⟨f, r⟩
    · have HN : Hid (fmOf l = none) := by unfold Hid fmOf; rw [if_pos h4, hp]
      have hs : (none : Option (Fm × List UInt8)).isSome = false := rfl
      clear hp hq
      go_wp2_with fail
      go_ret2
      exact ⟨hb2, _, by rw [HN.out]; rfl, fun f h => by rw [HN.out] at h; cases h⟩
    · obtain ⟨b, rfl, rfl, hf⟩ := hq f r hp
      have hs : (some (f, r) : Option (Fm × List UInt8)).isSome = true := rfl
      have HF := Lib.hid hf
      cases r with
      | nil =>
        have HN : Hid (fmOf l = some f) := by unfold Hid fmOf; rw [if_pos h4, hp]
        have h8 : (B []).toList.isEmpty = true := by rw [B_toList]; rfl
        clear hp hq hf
        go_wp2_with fail
        go_ret2
        exact ⟨hb2, _, by rw [HN.out]; rfl, fun g h => by rw [HN.out] at h; cases h; exact ⟨_, rfl, HF.out⟩⟩
      | cons c r =>
        have HN : Hid (fmOf l = none) := by unfold Hid fmOf; rw [if_pos h4, hp]
        have h8 : (B (c :: r)).toList.isEmpty = false := by rw [B_toList]; rfl
        clear hp hq hf
        go_wp2_with fail
        go_ret2
        exact ⟨hb2, _, by rw [HN.out]; rfl, fun f h => by rw [HN.out] at h; cases h⟩
  · have HN : Hid (fmOf l = none) := by unfold Hid fmOf; rw [if_neg h4]
    have h7 : 400 < ((B l).size : Int) := by omega
    have h8 : 400 < (l.length : Int) := by omega
    go_enter Try.func47, Try.ntmps47
    go_wp2_with fail
    go_ret2
    exact ⟨Below.refl _ _, _, by rw [HN.out]; rfl, fun f h => by rw [HN.out] at h; cases h⟩

end Yteepgblpoddcfaa
end Go.Proofs
