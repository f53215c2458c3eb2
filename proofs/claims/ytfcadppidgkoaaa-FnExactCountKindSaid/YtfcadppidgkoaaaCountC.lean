/- The walk of CountKind's closure: it counts the signs of one kind. -/
import Derived.Test.YtfcadppidgkoaaaEachCount
import Derived.Deep.QuietTactic
import Derived.BigQuiet
namespace Go.Proofs.Ytfcadppidgkoaaa
open Go.RowKit Go.Proofs.YtfcadppidgkoaaaW.PrintWords Go.Proofs.Ytfcadppidgkoaaa.ECount
set_option linter.unusedVariables false
set_option linter.unusedSimpArgs false

/-- At block g lies how many signs of the kind c there were, at block h lies the kind. -/
structure CT (wb w : World) (g h : Nat) (c : UInt8) (n : Int) : Prop where
  below : Below wb.heap.size wb w
  num : ∃ e, w.heap[g]? = some (.cells #[.int .i64 n] e (0, 0))
  knd : ∃ e, w.heap[h]? = some (.cells #[.string (B [c])] e (0, 0))
  g1 : wb.heap.size ≤ g
  ne : g ≠ h
theorem CT.set {wb w : World} {g h : Nat} {c : UInt8} {n : Int} (t : CT wb w g h c n) (m : Int) : CT wb (w.setCell ⟨g, 0, none⟩ (.int .i64 m)) g h c m := by
  obtain ⟨hb, ⟨eg, hg⟩, ⟨eh, hh⟩, g1, ne⟩ := t
  exact ⟨hb.setCell g1 _, ⟨eg, blk_set hg 0 _⟩, ⟨eh, blk_far hh (by simpa using ne.symm) _⟩, g1, ne⟩
theorem CT.drewN {wb w : World} {g h : Nat} {c : UInt8} {n : Int} (t : CT wb w g h c n) (m : Nat) : CT wb (w.drewN m) g h c n := by
  obtain ⟨hb, ⟨eg, hg⟩, ⟨eh, hh⟩, g1, ne⟩ := t
  exact ⟨pw_below_drewN hb m, ⟨eg, hg⟩, ⟨eh, hh⟩, g1, ne⟩
def cntL (c : UInt8) (l : List Tm) : Nat := l.countP fun u => u.kind == c
theorem cntL_snoc (c : UInt8) (l : List Tm) (u : Tm) : cntL c (l ++ [u]) = cntL c l + if u.kind = c then 1 else 0 := by
  unfold cntL; rw [List.countP_append]; congr 1; simp only [List.countP_cons, List.countP_nil, beq_iff_eq]; simp
theorem wrap_succ (x : Int) : wrap64 (wrap64 x + 1) = wrap64 (x + 1) := by unfold wrap64; omega

set_option maxHeartbeats 2000000 in
theorem count_closure {c : UInt8} {wb w : World} {g h : Nat} {l : List Tm} (ht : CT wb w g h c (wrap64 (cntL c l))) (u : Tm) (N x : Nat) (hu : Lies wb N u x) :
    Calls Try.prog 61 #[.pointer (some ⟨x, 0, none⟩), .pointer (some ⟨h, 0, none⟩), .pointer (some ⟨g, 0, none⟩)] w fun e w' => e = .returned (.tuple #[]) ∧ CT wb w' g h c (wrap64 (cntL c (l ++ [u]))) := by
  have hs := cntL_snoc c l u
  have hv := Lib.hid (wrap_succ (cntL c l))
  obtain ⟨v, hve⟩ : ∃ v, v = wrap64 (cntL c l) := ⟨_, rfl⟩
  rw [← hve] at ht hv
  have HE := Lib.hid hve
  clear hve
  have c0 := (hu.below ht.below).at
  obtain ⟨_, _, c0, _⟩ := c0
  obtain ⟨eg, hg⟩ := ht.num
  obtain ⟨eh, hh⟩ := ht.knd
  have cg : w.cell? ⟨g, 0, none⟩ = some (.int .i64 v) := blk_cell hg 0
  have ch : w.cell? ⟨h, 0, none⟩ = some (.string (B [c])) := blk_cell hh 0
  have fg := blk_frozen hg 0
  have hz : (B [c]).size = 1 := B_size [c]
  have hc := byte_of [c] 0 (by simp)
  have HT := Lib.hid ht
  clear ht hg hh hu
  by_cases hk : u.kind = c
  · rw [if_pos hk] at hs
    have HS := Lib.hid hs
    have hq : (vl u.kind == vl c) = true := by rw [hk]; simp
    clear hs hk
    go_enter Try.func61, Try.ntmps61
    go_wp2_with fail
    repeat (go_quiet (fail); try go_wp2)
    go_end0
    refine ⟨rfl, ?_⟩
    rw [HS.out]
    rw [Int.natCast_add, Int.natCast_one, ← hv.out]
    exact (HT.out.drewN _).set _
  · rw [if_neg hk] at hs
    have HS := Lib.hid hs
    have hq : (vl u.kind == vl c) = false := by rw [vl_beq]; simpa using hk
    clear hs hk
    go_enter Try.func61, Try.ntmps61
    go_wp2_with fail
    repeat (go_quiet (fail); try go_wp2)
    go_end0
    refine ⟨rfl, ?_⟩
    rw [HS.out, Nat.add_zero, ← HE.out]
    exact HT.out.drewN _
theorem does (wb : World) (g h : Nat) (c : UInt8) : Does (.pointer (some ⟨h, 0, none⟩)) (.pointer (some ⟨g, 0, none⟩)) (fun _ => True) wb (fun l w => CT wb w g h c (wrap64 (cntL c l))) :=
  ⟨fun _ _ h => h.below, fun l u w N x _ hl ht => count_closure ht u N x hl⟩
end Go.Proofs.Ytfcadppidgkoaaa
