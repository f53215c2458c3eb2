/- The walk of all with the test guarded: whether something holds of all signs. -/
import Derived.Test.YtfcadppidgkoaaaEachAll
import Derived.Deep.Draws
namespace Go.Proofs.Ytfcadppidgkoaaa.Aguarded
open Go.RowKit Go.Proofs.YtfcadppidgkoaaaW.PrintWords Go.Proofs.Ytfcadppidgkoaaa.EAll
set_option linter.unusedVariables false
set_option linter.unusedSimpArgs false

structure Told (wb w : World) (g h : Nat) (p : Tm → Bool) (l : List Tm) : Prop where
  below : Below wb.heap.size wb w
  ans : ∃ e, w.heap[g]? = some (.cells #[.bool (l.all p)] e (0, 0))
  fn : ∃ e, w.heap[h]? = some (.cells #[.func (.func 143) #[] #[]] e (0, 0))
  g1 : wb.heap.size ≤ g
  h1 : wb.heap.size ≤ h
  ne : g ≠ h

def TestSays (p : Tm → Bool) (Q : Tm → Prop) : Prop := ∀ (u : Tm) (w : World) (N x : Nat), Q u → Lies w N u x →
    Calls Try.prog 143 #[.pointer (some ⟨x, 0, none⟩)] w fun e w' => e = .returned (.bool (p u)) ∧ w = w'

theorem Told.set {wb w : World} {g h : Nat} {p : Tm → Bool} {l : List Tm} (t : Told wb w g h p l) (l2 : List Tm) (v : Bool) (hv : l2.all p = v) : Told wb (w.setCell ⟨g, 0, none⟩ (.bool v)) g h p l2 := by
  obtain ⟨hb, ⟨eg, hg⟩, ⟨eh, hh⟩, g1, h1, ne⟩ := t
  exact ⟨hb.setCell g1 _, ⟨eg, by rw [hv]; exact blk_set hg 0 _⟩, ⟨eh, blk_far hh (by simpa using ne.symm) _⟩, g1, h1, ne⟩

set_option maxHeartbeats 1000000 in
theorem closure_calls {p : Tm → Bool} {Q : Tm → Prop} (hp : TestSays p Q) {wb w : World} {g h : Nat} {l : List Tm} (ht : Told wb w g h p l) (u : Tm) (N x : Nat) (hq : Q u) (hu : Lies wb N u x) :
    Calls Try.prog 144 #[.pointer (some ⟨x, 0, none⟩), .pointer (some ⟨g, 0, none⟩), .pointer (some ⟨h, 0, none⟩)] w fun e w' => e = .returned (.tuple #[]) ∧ Told wb w' g h p (l ++ [u]) := by
  have HT := Lib.hid ht
  obtain ⟨hb, ⟨eg, hg⟩, ⟨eh, hh⟩, g1, h1, ne⟩ := ht
  have cg : w.cell? ⟨g, 0, none⟩ = some (.bool (l.all p)) := blk_cell hg 0
  have ch : w.cell? ⟨h, 0, none⟩ = some (.func (.func 143) #[] #[]) := blk_cell hh 0
  have fg := blk_frozen hg 0
  have hlx := Lib.hid (hu.below hb)
  have hall : Hid ((l ++ [u]).all p = (l.all p && p u)) := by simp [Hid]
  clear hb hg hh g1 h1
  rcases hlp : l.all p with _ | _
  · rw [hlp] at cg hall
    clear hlp
    go_enter Try.func144, Try.ntmps144
    go_wp2_with fail
    go_end0
    exact ⟨rfl, HT.out.set _ _ (by rw [hall.out]; rfl)⟩
  · rw [hlp] at cg hall
    clear hlp
    go_enter Try.func144, Try.ntmps144
    go_wp2_with fail
    refine (hp u _ N x hq hlx.out).mono ?_
    rintro e w' ⟨rfl, rfl⟩
    go_wp2_with fail
    go_end0
    exact ⟨rfl, HT.out.set _ _ (by rw [hall.out]; rfl)⟩

theorem does {p : Tm → Bool} {Q : Tm → Prop} (hp : TestSays p Q) (wb : World) (g h : Nat) : Does (.pointer (some ⟨g, 0, none⟩)) (.pointer (some ⟨h, 0, none⟩)) Q wb (fun l w => Told wb w g h p l) :=
  ⟨fun _ _ h => h.below, fun l u w N x hq hl ht => closure_calls hp ht u N x hq hl⟩

set_option maxHeartbeats 1000000 in
theorem all_calls {p : Tm → Bool} {Q : Tm → Prop} (hp : TestSays p Q) (t : Tm) (w : World) (N x : Nat) (hs : t.size ≤ 1000000) (hq : ∀ u, u ∈ pre t → Q u) (hl : Lies w N t x) :
    Calls Try.prog 130 #[.pointer (some ⟨x, 0, none⟩), .func (.func 143) #[] #[]] w fun e w' => e = .returned (.bool ((pre t).all p)) ∧ Below w.heap.size w w' := by
  have HT : Hid (∀ e1 e2, Told w ((w.alloc (.cells #[.func (.func 143) #[] #[]] e1)).alloc (.cells #[.bool true] e2)) (w.heap.size + 1) w.heap.size p []) := fun e1 e2 =>
    ⟨((Below.refl w.heap.size w).alloc (Nat.le_refl _) _).alloc (by simp) _,
     ⟨e2, by have := heap_alloc_new (w.alloc (.cells #[.func (.func 143) #[] #[]] e1)) (.cells #[.bool true] e2); simpa using this⟩,
     ⟨e1, by
       rw [Below.heap_alloc _ _ _ (by simp)]
       exact heap_alloc_new w _⟩, by omega, Nat.le_refl _, by omega⟩
  have HP := Lib.hid hp
  have HQ := Lib.hid hq
  have HL := Lib.hid hl
  clear hp hq hl
  go_enter Try.func130, Try.ntmps130
  go_wp2_with fail
  refine (each_any (does HP.out w (w.heap.size + 1) w.heap.size) t.size t [] _ N x (Nat.le_refl _) hs HQ.out HL.out (HT.out _ _)).mono ?_
  rintro e w1 ⟨rfl, ht⟩
  obtain ⟨hb, ⟨eg, hg⟩, hh, g1, h1, ne⟩ := ht
  have cg : w1.cell? ⟨w.heap.size + 1, 0, none⟩ = some (.bool (([] ++ pre t).all p)) := blk_cell hg 0
  rw [List.nil_append] at cg
  clear hg hh g1 h1 ne HT
  go_wp2_with fail
  go_ret
  exact ⟨rfl, hb⟩

end Go.Proofs.Ytfcadppidgkoaaa.Aguarded
