/- The walk of a coder's fresh: the first name that is none of some, or the mark that there is none. -/
import Derived.Test.YtfcadppidgkoaaaCoder
import Derived.Test.YtfcadppidgkoaaaJoin
import Derived.Test.YtfcadppidgkoaaaSetOf
import Derived.Test.YtfcadppidgkoaaaFreshI
namespace Go.Proofs.Ytfcadppidgkoaaa
open Go.RowKit Go.Proofs.YtfcadppidgkoaaaW.PrintWords Go.Proofs.YtfcadppidgkoaaaW.PrintMore
set_option linter.unusedVariables false
set_option linter.unusedSimpArgs false

/-- A coder lies at block g, and whether it is bad. -/
structure Cod (wb w : World) (g : Nat) (b : Bool) : Prop where
  below : Below wb.heap.size wb w
  cell : ∃ e, w.heap[g]? = some (.cells #[.bool b] e (0, 0))
  g1 : wb.heap.size ≤ g
theorem Cod.lt {wb w : World} {g : Nat} {b : Bool} (h : Cod wb w g b) : g < w.heap.size := by obtain ⟨e, h⟩ := h.cell; exact blk_lt h
theorem Cod.keep {wb w w' : World} {g : Nat} {b : Bool} (h : Cod wb w g b) (hb : Below w.heap.size w w') : Cod wb w' g b := by
  have hl := h.lt
  obtain ⟨h1, ⟨e, h2⟩, h3⟩ := h
  exact ⟨below_then h1 h1.size hb, ⟨e, (hb.block _ hl).trans h2⟩, h3⟩
theorem Cod.set {wb w : World} {g : Nat} {b : Bool} (h : Cod wb w g b) (v : Bool) : Cod wb (w.setCell ⟨g, 0, none⟩ (.bool v)) g v := by
  obtain ⟨h1, ⟨e, h2⟩, h3⟩ := h
  exact ⟨h1.setCell h3 _, ⟨e, blk_set h2 0 _⟩, h3⟩
theorem cod_new {wb w : World} (hb : Below wb.heap.size wb w) (b : Bool) (e : TypeId) : Cod wb (w.alloc (.cells #[.bool b] e)) w.heap.size b :=
  ⟨hb.alloc hb.size _, ⟨e, heap_alloc_new w _⟩, hb.size⟩
theorem Cod.alloc {wb w : World} {g : Nat} {b : Bool} (h : Cod wb w g b) (o : Obj) : Cod wb (w.alloc o) g b := h.keep ((Below.refl _ _).alloc (Nat.le_refl _) _)
/-- The name that is handed back. -/
def freshC (p : UInt8 → Bool) : UInt8 := (freshOf p).getD 97
theorem freshC_let (p : UInt8 → Bool) : isLet (freshC p) = true := by
  unfold freshC
  cases h : freshOf p with
  | none => rfl
  | some c => exact (freshOf_let h).1

theorem freshB_some {p : UInt8 → Bool} {c : UInt8} (h : freshOf p = some c) : freshB p = c := by unfold freshB; rw [h]
theorem freshB_none {p : UInt8 → Bool} (h : freshOf p = none) : 128 ≤ vl (freshB p) := by
  unfold freshB
  rw [h]
  show 128 ≤ vl (((beyFrom 0).find? fun c => !p c).getD 191)
  cases hf : (beyFrom 0).find? fun c => !p c with
  | none => decide
  | some c =>
    have hm := List.mem_of_find?_eq_some hf
    unfold beyFrom at hm
    obtain ⟨j, hj, rfl⟩ := List.mem_map.mp hm
    have hj' : j < 63 := by simpa using hj
    rw [Nat.zero_add]
    have := bey_vl (i := j) (by omega)
    simp only [Option.getD_some]
    omega

attribute [local irreducible] Utf8.encode
set_option maxHeartbeats 2000000 in
theorem coderFresh_calls {wb w : World} {g : Nat} {b : Bool} (hc : Cod wb w g b) (bk c : Nat) (xs : List (List UInt8)) (hx : Texts w bk xs) (hn : xs.length ≤ 1000) (hcap : xs.length ≤ c) (hlen : xs.flatten.length ≤ 1000000)
    (hall : ∀ c, c ∈ xs.flatten → isLet c = true) :
    Calls Try.prog 67 #[.pointer (some ⟨g, 0, none⟩), .slice (some ⟨bk, 0, none⟩) xs.length c] w fun e w' => e = .returned (.string (B [freshC (inS xs.flatten)])) ∧ Cod wb w' g (b || (freshOf (inS xs.flatten)).isNone) := by
  have hj := join_calls bk c xs w hx hn hcap hlen
  have HA := Lib.hid hall
  have HC := Lib.hid hc
  clear hc hx hall
  go_enter Try.func67, Try.ntmps67
  go_wp2_with fail
  refine hj.mono ?_
  rintro e w1 ⟨rfl, hb⟩
  have HC1 := Lib.hid (HC.out.keep hb)
  have hs := setOf_calls xs.flatten w1 (by omega) HA.out
  clear hb HC hj
  go_wp2_with fail
  refine hs.mono ?_
  rintro e w' ⟨rfl, rfl⟩
  clear hs
  go_wp2_with fail
  refine (fresh_calls (inS xs.flatten) _).mono ?_
  rintro e w' ⟨rfl, rfl⟩
  cases hf : freshOf (inS xs.flatten) with
  | none =>
    have HV : Hid (freshC (inS xs.flatten) = 97) := by simp [Hid, freshC, hf]
    obtain ⟨e, hg⟩ := HC1.out.cell
    have cg := blk_cell hg 0
    have fg := blk_frozen hg 0
    have HF := Lib.hid hf
    clear hg hf
    go_wp2_with fail
    go_ret
    refine ⟨by rw [HV.out]; rfl, ?_⟩
    have := HC1.out.set true
    rw [HF.out, show (b || (none : Option UInt8).isNone) = true from by simp]
    exact this
  | some d =>
    have HV : Hid (freshC (inS xs.flatten) = d) := by simp [Hid, freshC, hf]
    have HD := Lib.hid (freshOf_let hf).1
    have hz : Hid (Utf8.encode (wrap32 (freshInt (some d))) = B [d]) := by
      have h1 := let_lt HD.out
      have h2 := vl_range d
      rw [show freshInt (some d) = vl d from rfl, show wrap32 (vl d) = vl d from by unfold wrap32; omega]
      exact enc_small h1
    have HF := Lib.hid hf
    clear hf
    go_wp2_with fail
    go_ret
    refine ⟨by rw [HV.out, ← hz.out]; rfl, ?_⟩
    rw [HF.out, show (b || (some d).isNone) = b from by simp]
    exact HC1.out

end Go.Proofs.Ytfcadppidgkoaaa
