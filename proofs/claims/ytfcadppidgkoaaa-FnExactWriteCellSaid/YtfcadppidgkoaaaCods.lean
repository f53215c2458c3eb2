/- Several texts in one.
   The walk of setOf: the names of a text as a set.
   The walk of fresh: the first name that is not in a set.
   The walk of IsProcess.
   The walk of a coder's told.
   strings.Join with nothing between, off the shelf.
   The walk of a coder's fresh: the first name that is none of some, or the mark that there is none.
   The walk of namesOf: the free names of some processes. -/
import Derived.Test.YtfcadppidgkoaaaBit
import Derived.Test.YtfcadppidgkoaaaBase
import Derived.Test.YtfcadppidgkoaaaReads
import Derived.Shelf.Strings.OnBuilder
import Derived.Test.YtfcadppidgkoaaaChecked
import Derived.Lib.Hide
import Derived.Test.YtfcadppidgkoaaaFree
import Derived.Test.YtfcadppidgkoaaaLetters
namespace Go.Proofs.Ytfcadppidgkoaaa
open Go.RowKit Go.Proofs.YtfcadppidgkoaaaW.PrintWords Go.Proofs.YtfcadppidgkoaaaW.PrintMore
set_option linter.unusedVariables false
set_option linter.unusedSimpArgs false

set_option maxHeartbeats 1000000 in
theorem setOf_calls (l : List UInt8) (w : World) (hl : l.length ≤ 140737488351232) (hall : ∀ c, c ∈ l → isLet c = true) : Calls Try.prog 107 #[.string (B l)] w fun e w' => e = .returned (.int .u32 (setI (inS l))) ∧ w = w' := by
  have hz : (B l).size = l.length := B_size l
  have HALL := Lib.hid hall
  clear hall
  go_enter Try.func107, Try.ntmps107
  go_wp2_with fail
  go_loop [3, 7] (fun a c => ∃ i : Nat, i ≤ l.length ∧ c = .int .i64 i ∧ a = .int .u32 (setI (inS (l.take i)))) (fun _ c => l.length - (intOf c).toNat)
  case atStart => exact ⟨0, by omega, rfl, by rw [List.take_zero, show inS [] = noS from rfl, setI_empty]⟩
  case round =>
    obtain ⟨i, hi, rfl, rfl⟩ := hrel
    by_cases hlt : i < l.length
    · have hc := byte_of l i hlt
      have HL := Lib.hid (HALL.out l[i] (List.getElem_mem hlt))
      have HO := Lib.hid (set_or (inS (l.take i)) (eqS l[i]))
      have HN : Hid (setI (inS (l.take (i + 1))) = setI (orS (inS (l.take i)) (eqS l[i]))) := by
        show _ = _
        apply setI_congr
        intro d _
        unfold inS orS eqS
        rw [List.take_succ_eq_append_getElem hlt, List.contains_append]
        congr 1
        rw [Bool.eq_iff_iff]; simp
      go_wp2_with fail
      refine (bit_calls HL.out _).mono ?_
      rintro e w' ⟨rfl, rfl⟩
      go_wp2_with fail
      go_round
      case rel => exact ⟨i + 1, by omega, by go_num, by rw [HN.out, ← HO.out]⟩
      case measure => simp [intOf]; omega
    · have HA : Hid (setI (inS (l.take i)) = setI (inS l)) := by
        show _ = _
        rw [show i = l.length from by omega, List.take_length]
      go_wp2_with fail
      go_ret
      exact ⟨by rw [← HA.out]; rfl, rfl⟩

end Go.Proofs.Ytfcadppidgkoaaa
namespace Go.Proofs.Ytfcadppidgkoaaa
open Go.RowKit Go.Proofs.YtfcadppidgkoaaaW.PrintWords Go.Proofs.YtfcadppidgkoaaaW.PrintMore
set_option linter.unusedVariables false
set_option linter.unusedSimpArgs false

def freshInt : Option UInt8 → Int | some c => vl c | none => 0
set_option maxHeartbeats 1000000 in
theorem fresh_calls (p : UInt8 → Bool) (w : World) : Calls Try.prog 106 #[.int .u32 (setI p)] w fun e w' => e = .returned (.tuple #[.int .u8 (freshInt (freshOf p)), .bool (freshOf p).isSome]) ∧ w = w' := by
  have HP : Hid (∀ i, i < 26 → (Go.bits .and .u32 (setI p) (setI (eqS (letAt i))) = 0 ↔ p (letAt i) = false)) := fun i hi => set_test p (isLet_iff.mpr ⟨i, hi, rfl⟩)
  go_enter Try.func106, Try.ntmps106
  go_wp2_with fail
  go_loop [4] (fun c => ∃ i : Nat, i ≤ 26 ∧ c = .int .u8 (97 + i) ∧ freshOf p = (letsFrom i).find? fun c => !p c) (fun c => 26 - (intOf c - 97).toNat)
  case atStart => exact ⟨0, by omega, rfl, rfl⟩
  case round =>
    obtain ⟨i, hi, rfl, hf⟩ := hrel
    have HF := Lib.hid hf
    clear hf
    by_cases hlt : i < 26
    · have hb := bit_calls (isLet_iff.mpr ⟨i, hlt, rfl⟩) w
      rw [letAt_vl (by omega)] at hb
      have hpi := HP.out i hlt
      go_wp2_with fail
      refine hb.mono ?_
      rintro e w' ⟨rfl, rfl⟩
      by_cases hp : p (letAt i) = true
      · have hne : (Go.bits .and .u32 (setI p) (setI (eqS (letAt i))) == 0) = false := by
          rw [beq_eq_false_iff_ne]; intro h; rw [hpi.mp h] at hp; cases hp
        have HF2 : Hid (freshOf p = (letsFrom (i + 1)).find? fun c => !p c) := by
          show _ = _
          rw [HF.out, letsFrom_step hlt, List.find?_cons, hp]; rfl
        clear hb hpi hp
        go_wp2_with fail
        go_round
        case rel => exact ⟨i + 1, by omega, by go_num, HF2.out⟩
        case measure => simp [intOf]; omega
      · have hp' : p (letAt i) = false := by simpa using hp
        have he : (Go.bits .and .u32 (setI p) (setI (eqS (letAt i))) == 0) = true := by rw [beq_iff_eq]; exact hpi.mpr hp'
        have HF2 : Hid (freshOf p = some (letAt i)) := by
          show _ = _
          rw [HF.out, letsFrom_step hlt, List.find?_cons, hp']; rfl
        have HV : Hid (vl (letAt i) = 97 + i) := letAt_vl (by omega)
        clear hb hpi hp hp'
        go_wp2_with fail
        go_ret2
        exact ⟨by rw [HF2.out]; show _ = Ending.returned (.tuple #[.int .u8 (vl (letAt i)), .bool true]); rw [HV.out]; rfl, rfl⟩
    · have HF2 : Hid (freshOf p = none) := by
        show _ = _
        rw [HF.out, letsFrom_end (by omega)]; rfl
      go_wp2_with fail
      go_ret2
      exact ⟨by rw [HF2.out]; rfl, rfl⟩

end Go.Proofs.Ytfcadppidgkoaaa
namespace Go.Proofs.Ytfcadppidgkoaaa
open Go.RowKit Go.Proofs.YtfcadppidgkoaaaW.PrintWords Go.Proofs.YtfcadppidgkoaaaW.PrintMore Go.Proofs.Ytfcadppidgkoaaa.Pterm
set_option linter.unusedVariables false
set_option linter.unusedSimpArgs false

set_option maxHeartbeats 1000000 in
theorem isProcess_calls (l : List UInt8) (w : World) (hl : l.length ≤ 140737488351232) :
    Calls Try.prog 73 #[.string (B l)] w fun e w' => e = .returned (.bool (readOk l)) ∧ Below w.heap.size w w' := by
  go_enter Try.func73, Try.ntmps73
  go_wp2_with fail
  refine (read_calls l w hl).mono ?_
  rintro e w1 ⟨hb, p, rfl, hp⟩
  clear hp
  go_wp2_with fail
  go_ret
  exact ⟨rfl, hb⟩

end Go.Proofs.Ytfcadppidgkoaaa
namespace Go.Proofs.Ytfcadppidgkoaaa
open Go.RowKit Go.Proofs.YtfcadppidgkoaaaW.PrintWords Go.Proofs.YtfcadppidgkoaaaW.PrintMore Go.Proofs.Ytfcadppidgkoaaa.Pterm
set_option linter.unusedVariables false
set_option linter.unusedSimpArgs false

/-- What told hands back. -/
def toldS (bad : Bool) (l : List UInt8) : ByteArray × Bool := if bad = false ∧ readOk l = true then (B l, true) else (B [], false)
set_option maxHeartbeats 1000000 in
theorem coderTold_calls (g : Nat) (bad : Bool) (l : List UInt8) (w : World) (hc : w.cell? ⟨g, 0, none⟩ = some (.bool bad)) (hl : l.length ≤ 140737488351232) :
    Calls Try.prog 68 #[.pointer (some ⟨g, 0, none⟩), .string (B l)] w fun e w' => e = .returned (.tuple #[.string (toldS bad l).1, .bool (toldS bad l).2]) ∧ Below w.heap.size w w' := by
  cases bad with
  | true =>
    have hv : Hid (toldS true l = (B [], false)) := by simp [Hid, toldS]
    go_enter Try.func68, Try.ntmps68
    go_wp2_with fail
    go_ret2
    exact ⟨by rw [hv.out]; rfl, Below.refl _ _⟩
  | false =>
    have hp := isProcess_calls l w hl
    rcases hok : readOk l with _ | _
    · rw [hok] at hp
      have hv : Hid (toldS false l = (B [], false)) := by simp [Hid, toldS, hok]
      clear hok
      go_enter Try.func68, Try.ntmps68
      go_wp2_with fail
      refine hp.mono ?_
      rintro e w1 ⟨rfl, hb⟩
      clear hp
      go_wp2_with fail
      go_ret2
      exact ⟨by rw [hv.out]; rfl, hb⟩
    · rw [hok] at hp
      have hv : Hid (toldS false l = (B l, true)) := by simp [Hid, toldS, hok]
      clear hok
      go_enter Try.func68, Try.ntmps68
      go_wp2_with fail
      refine hp.mono ?_
      rintro e w1 ⟨rfl, hb⟩
      clear hp
      go_wp2_with fail
      go_ret2
      exact ⟨by rw [hv.out]; rfl, hb⟩

end Go.Proofs.Ytfcadppidgkoaaa
namespace Go.Proofs
open Go.Shelf Go.Lib
def Try.lays156_ren : Go.Shelf.Ren := ⟨fun | 156 => 108 | 165 => 133 | 166 => 134 | 169 => 135 | 240 => 146 | 241 => 147 | 276 => 151 | 277 => 152 | n => n, fun | 31 => 25 | 9 => 9 | 3 => 3 | 4 => 4 | 0 => 0 | 20 => 20 | 72 => 126 | 76 => 130 | 70 => 124 | 37 => 98 | 75 => 129 | 127 => 142 | 164 => 145 | 5 => 5 | 80 => 114 | n => n, fun | n => n⟩
theorem Try.lays156 : Go.Proofs.Lays.n156 Try.prog Try.lays156_ren := {
  mixed := by kernel_rfl
  f156 := Try.func108.trans (congrArg some (by kernel_rfl))
  f165 := Try.func133.trans (congrArg some (by kernel_rfl))
  f166 := Try.func134.trans (congrArg some (by kernel_rfl))
  f169 := Try.func135.trans (congrArg some (by kernel_rfl))
  f240 := Try.func146.trans (congrArg some (by kernel_rfl))
  f241 := Try.func147.trans (congrArg some (by kernel_rfl))
  f276 := Try.func151.trans (congrArg some (by kernel_rfl))
  f277 := Try.func152.trans (congrArg some (by kernel_rfl))
  t0 := Try.underlying0
  a0 := Try.isAgg0
  z0 := Try.sizeOf0
  v0 := Try.zeroValue0
  t3 := Try.underlying3
  a3 := Try.isAgg3
  z3 := Try.sizeOf3
  v3 := Try.zeroValue3
  t4 := Try.underlying4
  a4 := Try.isAgg4
  z4 := Try.sizeOf4
  v4 := Try.zeroValue4
  t9 := Try.underlying9
  a9 := Try.isAgg9
  z9 := Try.sizeOf9
  v9 := Try.zeroValue9
  t20 := Try.underlying20
  a20 := Try.isAgg20
  z20 := Try.sizeOf20
  v20 := Try.zeroValue20
  t31 := Try.underlying25
  a31 := Try.isAgg25
  z31 := Try.sizeOf25
  v31 := Try.zeroValue25
  t37 := Try.underlying98
  a37 := Try.isAgg98
  z37 := Try.sizeOf98
  v37 := Try.zeroValue98
  t70 := Try.underlying124
  a70 := Try.isAgg124
  z70 := Try.sizeOf124
  v70 := Try.zeroValue124
  t72 := Try.underlying126
  a72 := Try.isAgg126
  z72 := Try.sizeOf126
  v72 := Try.zeroValue126
  t75 := Try.underlying129
  a75 := Try.isAgg129
  z75 := Try.sizeOf129
  v75 := Try.zeroValue129
  t76 := Try.underlying130
  a76 := Try.isAgg130
  z76 := Try.sizeOf130
  v76 := Try.zeroValue130
  t127 := Try.underlying142
  a127 := Try.isAgg142
  z127 := Try.sizeOf142
  v127 := Try.zeroValue142
  t164 := Try.underlying145
  a164 := Try.isAgg145
  z164 := Try.sizeOf145
  v164 := Try.zeroValue145 }
theorem Try.joinExtra : Builder.Extra Try.prog Try.lays156_ren where
  sizeBuilder := by kernel_rfl
  liesBuilder := by kernel_rfl
  t5 := Try.underlying5
  a5 := Try.isAgg5
  z5 := Try.sizeOf5
  v5 := Try.zeroValue5
  infoByte := by kernel_rfl
  cellsByte := by kernel_rfl
  sizeByte := by kernel_rfl
  neB5 := by decide
namespace Ytfcadppidgkoaaa
open Go.RowKit Go.Proofs.YtfcadppidgkoaaaW.PrintWords
theorem join_nothing (xs : List (List UInt8)) : Lib.join xs [] = xs.flatten := by
  induction xs with
  | nil => rfl
  | cons x xs ih =>
    cases xs with
    | nil => simp [Lib.join]
    | cons y ys => simp [Lib.join, List.intercalate, List.intersperse] at ih ⊢; exact ih
/-- The texts of a slice of strings lie in a row. -/
def Texts (w : World) (bk : Nat) (xs : List (List UInt8)) : Prop := bk < w.heap.size ∧ ∀ (j : Nat) x, xs[j]? = some x → w.cell? ⟨bk, j, none⟩ = some (.string (B x))
theorem texts_new (w : World) (xs : List (List UInt8)) (e : TypeId) : Texts (w.alloc (.cells (xs.map fun x => .string (B x)).toArray e)) w.heap.size xs := by
  refine ⟨by simp, fun j x hj => ?_⟩
  rw [blk_cell (heap_alloc_new w _) j]
  simp [hj]
theorem join_calls (bk c : Nat) (xs : List (List UInt8)) (w : World) (h : Texts w bk xs) (hn : xs.length ≤ 1000) (hc : xs.length ≤ c) (hl : xs.flatten.length ≤ 1000000) :
    Calls Try.prog 108 #[.slice (some ⟨bk, 0, none⟩) xs.length c, .string ⟨#[]⟩] w fun e w' => e = .returned (.string (B xs.flatten)) ∧ Below w.heap.size w w' := by
  have hm : ((xs.map B).map (·.data.toList)) = xs := by simp [List.map_map, Function.comp_def, B_data]
  have := Any.strings_Join Try.lays156 Try.joinExtra bk 0 c (xs.map B) ⟨#[]⟩ w (fun j x hj => by
    rw [List.getElem?_map] at hj
    obtain ⟨y, hy, rfl⟩ := Option.map_eq_some_iff.mp hj
    rw [Nat.zero_add]
    exact h.2 j y hy) h.1 (by simp; omega) (by simpa using hc) (by rw [hm, show (⟨#[]⟩ : ByteArray).data.toList = [] from rfl, join_nothing]; omega)
  rw [hm, show (⟨#[]⟩ : ByteArray).data.toList = [] from rfl, join_nothing, List.length_map] at this
  exact this
end Ytfcadppidgkoaaa
end Go.Proofs
namespace Go.Proofs.Ytfcadppidgkoaaa
open Go.RowKit Go.Proofs.YtfcadppidgkoaaaW.PrintWords Go.Proofs.YtfcadppidgkoaaaW.PrintMore
set_option linter.unusedVariables false
set_option linter.unusedSimpArgs false

/-- A coder lies at block g, and whether it is bad. -/
structure Cod (wb w : World) (g : Nat) (b : Bool) : Prop where
  below : Below wb.heap.size wb w
  cell : ∃ e, w.heap[g]? = some (.cells #[.bool b] e (0, 0))
  g1 : wb.heap.size ≤ g
theorem Cod.lt {wb w : World} {g : Nat} {b : Bool} (h : Cod wb w g b) : g < w.heap.size := by obtain ⟨e, h⟩ := h.cell; exact blk_lt h
theorem Cod.keep {wb w w' : World} {g : Nat} {b : Bool} (h : Cod wb w g b) (hb : Below w.heap.size w w') : Cod wb w' g b := by
  have hl := h.lt
  obtain ⟨h1, ⟨e, h2⟩, h3⟩ := h
  exact ⟨below_then h1 h1.size hb, ⟨e, (hb.block _ hl).trans h2⟩, h3⟩
theorem Cod.set {wb w : World} {g : Nat} {b : Bool} (h : Cod wb w g b) (v : Bool) : Cod wb (w.setCell ⟨g, 0, none⟩ (.bool v)) g v := by
  obtain ⟨h1, ⟨e, h2⟩, h3⟩ := h
  exact ⟨h1.setCell h3 _, ⟨e, blk_set h2 0 _⟩, h3⟩
theorem cod_new {wb w : World} (hb : Below wb.heap.size wb w) (b : Bool) (e : TypeId) : Cod wb (w.alloc (.cells #[.bool b] e)) w.heap.size b :=
  ⟨hb.alloc hb.size _, ⟨e, heap_alloc_new w _⟩, hb.size⟩
theorem Cod.alloc {wb w : World} {g : Nat} {b : Bool} (h : Cod wb w g b) (o : Obj) : Cod wb (w.alloc o) g b := h.keep ((Below.refl _ _).alloc (Nat.le_refl _) _)
/-- The name that is handed back. -/
def freshC (p : UInt8 → Bool) : UInt8 := (freshOf p).getD 97
theorem freshC_let (p : UInt8 → Bool) : isLet (freshC p) = true := by
  unfold freshC
  cases h : freshOf p with
  | none => rfl
  | some c => exact (freshOf_let h).1

theorem freshB_some {p : UInt8 → Bool} {c : UInt8} (h : freshOf p = some c) : freshB p = c := by unfold freshB; rw [h]
theorem freshB_none {p : UInt8 → Bool} (h : freshOf p = none) : 128 ≤ vl (freshB p) := by
  unfold freshB
  rw [h]
  show 128 ≤ vl (((beyFrom 0).find? fun c => !p c).getD 191)
  cases hf : (beyFrom 0).find? fun c => !p c with
  | none => decide
  | some c =>
    have hm := List.mem_of_find?_eq_some hf
    unfold beyFrom at hm
    obtain ⟨j, hj, rfl⟩ := List.mem_map.mp hm
    have hj' : j < 63 := by simpa using hj
    rw [Nat.zero_add]
    have := bey_vl (i := j) (by omega)
    simp only [Option.getD_some]
    omega

attribute [local irreducible] Utf8.encode
set_option maxHeartbeats 2000000 in
theorem coderFresh_calls {wb w : World} {g : Nat} {b : Bool} (hc : Cod wb w g b) (bk c : Nat) (xs : List (List UInt8)) (hx : Texts w bk xs) (hn : xs.length ≤ 1000) (hcap : xs.length ≤ c) (hlen : xs.flatten.length ≤ 1000000)
    (hall : ∀ c, c ∈ xs.flatten → isLet c = true) :
    Calls Try.prog 67 #[.pointer (some ⟨g, 0, none⟩), .slice (some ⟨bk, 0, none⟩) xs.length c] w fun e w' => e = .returned (.string (B [freshC (inS xs.flatten)])) ∧ Cod wb w' g (b || (freshOf (inS xs.flatten)).isNone) := by
  have hj := join_calls bk c xs w hx hn hcap hlen
  have HA := Lib.hid hall
  have HC := Lib.hid hc
  clear hc hx hall
  go_enter Try.func67, Try.ntmps67
  go_wp2_with fail
  refine hj.mono ?_
  rintro e w1 ⟨rfl, hb⟩
  have HC1 := Lib.hid (HC.out.keep hb)
  have hs := setOf_calls xs.flatten w1 (by omega) HA.out
  clear hb HC hj
  go_wp2_with fail
  refine hs.mono ?_
  rintro e w' ⟨rfl, rfl⟩
  clear hs
  go_wp2_with fail
  refine (fresh_calls (inS xs.flatten) _).mono ?_
  rintro e w' ⟨rfl, rfl⟩
  cases hf : freshOf (inS xs.flatten) with
  | none =>
    have HV : Hid (freshC (inS xs.flatten) = 97) := by simp [Hid, freshC, hf]
    obtain ⟨e, hg⟩ := HC1.out.cell
    have cg := blk_cell hg 0
    have fg := blk_frozen hg 0
    have HF := Lib.hid hf
    clear hg hf
    go_wp2_with fail
    go_ret
    refine ⟨by rw [HV.out]; rfl, ?_⟩
    have := HC1.out.set true
    rw [HF.out, show (b || (none : Option UInt8).isNone) = true from by simp]
    exact this
  | some d =>
    have HV : Hid (freshC (inS xs.flatten) = d) := by simp [Hid, freshC, hf]
    have HD := Lib.hid (freshOf_let hf).1
    have hz : Hid (Utf8.encode (wrap32 (freshInt (some d))) = B [d]) := by
      have h1 := let_lt HD.out
      have h2 := vl_range d
      rw [show freshInt (some d) = vl d from rfl, show wrap32 (vl d) = vl d from by unfold wrap32; omega]
      exact enc_small h1
    have HF := Lib.hid hf
    clear hf
    go_wp2_with fail
    go_ret
    refine ⟨by rw [HV.out, ← hz.out]; rfl, ?_⟩
    rw [HF.out, show (b || (some d).isNone) = b from by simp]
    exact HC1.out

end Go.Proofs.Ytfcadppidgkoaaa
namespace Go.Proofs.Ytfcadppidgkoaaa
open Go.RowKit Go.Proofs.YtfcadppidgkoaaaW.PrintWords Go.Proofs.YtfcadppidgkoaaaW.PrintMore Go.Proofs.Ytfcadppidgkoaaa.Pterm
set_option linter.unusedVariables false
set_option linter.unusedSimpArgs false

/-- The names that are free in some texts. -/
def frT (xs : List (List UInt8)) : UInt8 → Bool := xs.foldl (fun a l => orS a (parsed l).1.fr) noS
theorem frT_take_succ (l : List (List UInt8)) (i : Nat) (h : i < l.length) : frT (l.take (i + 1)) = orS (frT (l.take i)) (parsed l[i]).1.fr := by
  unfold frT; rw [List.take_succ_eq_append_getElem h, List.foldl_append]; rfl

set_option maxHeartbeats 2000000 in
theorem namesOf_calls (bk c : Nat) (xs : List (List UInt8)) (w : World) (hx : Texts w bk xs) (hn : xs.length ≤ 1000) (hr : ∀ x, x ∈ xs → readOk x = true) :
    Calls Try.prog 74 #[.slice (some ⟨bk, 0, none⟩) xs.length c] w fun e w' => e = .returned (.string (B (sortL (frT xs)))) ∧ Below w.heap.size w w' := by
  have HX := Lib.hid hx
  have HR := Lib.hid hr
  clear hx hr
  go_enter Try.func74, Try.ntmps74
  go_wp2_with fail
  go_loopw [3, 10] (fun a i wr => ∃ k : Nat, k ≤ xs.length ∧ i = .int .i64 k ∧ a = .int .u32 (setI (frT (xs.take k))) ∧ Below w.heap.size w wr) (fun _ i _ => xs.length - (intOf i).toNat)
  case atStart => exact ⟨0, Nat.zero_le _, rfl, by rw [List.take_zero, show frT [] = noS from rfl, setI_empty], Below.refl _ _⟩
  case round =>
    obtain ⟨k, hk, rfl, rfl, hb⟩ := hrel
    by_cases hlt : k < xs.length
    · have hc : wr.cell? ⟨bk, k, none⟩ = some (.string (B xs[k])) := (hb.cell HX.out.1).trans (HX.out.2 k _ (List.getElem?_eq_getElem hlt))
      have HG := Lib.hid (read_good (HR.out _ (List.getElem_mem hlt)))
      have h1 := Lib.hid (frT_take_succ xs k hlt)
      have HO := Lib.hid (set_or (frT (xs.take k)) (parsed xs[k]).1.fr)
      have hp := parse_calls xs[k] (by have := HG.out.1; omega) wr
      go_wp2_with fail
      refine hp.mono ?_
      rintro e w1 ⟨b, rfl, hli, hb1⟩
      replace hb := below_then hb hb.size hb1
      have hf := free_any 61 (parsed xs[k]).1 w1 _ b (by have := HG.out.2.2.2; omega) (by omega) HG.out.2.2.1 hli
      clear hb1 hp hli hc
      go_wp2_with fail
      refine hf.mono ?_
      rintro e w2 ⟨rfl, m, rfl⟩
      replace hb := pw_below_drewN hb m
      clear hf
      go_wp2_with fail
      go_roundw
      case rel => exact ⟨k + 1, by omega, by go_num, by rw [h1.out, ← HO.out], hb⟩
      case measure => simp [intOf]; omega
    · have hke : k = xs.length := by omega
      subst hke
      rw [List.take_length]
      go_wp2_with fail
      refine (letters_calls _ _).mono ?_
      rintro e w2 ⟨rfl, rfl⟩
      go_wp2_with fail
      go_ret
      exact ⟨rfl, hb⟩

end Go.Proofs.Ytfcadppidgkoaaa
