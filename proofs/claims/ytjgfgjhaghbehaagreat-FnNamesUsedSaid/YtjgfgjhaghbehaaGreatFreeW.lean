/- Several texts in one.
   The walk of size.
   Several texts in one.
   The walks of bit and isLetter.
   The walks of binds, free and bound: the names of a term, as sets.
   The walk of letters: a set of names as a text. -/
import Derived.Test.YtjgfgjhaghbehaaGreatProg
import Derived.Deep.LoopGhost
import Derived.WalkKit
import Derived.OwnWalk
import Derived.Test.YtjgfgjhaghbehaaGreatBase
import Derived.Lib.Hide
import Derived.Outline
import Derived.Laws.BitsAllLaws
import Derived.Test.YtjgfgjhaghbehaaGreatWMore
import Derived.Laws.ShiftsVarLaws
import Derived.Deep.QuietTactic
import Derived.BigQuiet
namespace Go.Proofs.YtjgfgjhaghbehaaGreat
open Go.RowKit Go.Proofs.YtjgfgjhaghbehaaGreatW.PrintWords

theorem ret_int {k : IntKind} {a b : Int} (h : a = b) : Ending.returned (.int k a) = .returned (.int k b) := by rw [h]
def sizes (l : List Tm) : Nat := (l.map Tm.size).sum
theorem sizes_take_succ (l : List Tm) (i : Nat) (h : i < l.length) : sizes (l.take (i + 1)) = sizes (l.take i) + l[i].size := by
  unfold sizes; rw [List.take_succ_eq_append_getElem h, List.map_append, List.sum_append]; rfl
theorem sizes_kids (t : Tm) : 1 + sizes t.kids = t.size := by cases t <;> simp [sizes, Tm.kids, Tm.size] <;> omega
theorem kid_le (t : Tm) (i : Nat) (h : i < t.kids.length) : t.kids[i].size < t.size := by
  cases t with
  | leaf => simp [Tm.kids] at h
  | un => simp [Tm.kids] at h; subst h; simp [Tm.kids, Tm.size]
  | bin => simp [Tm.kids] at h; rcases (by omega : i = 0 ∨ i = 1) with rfl | rfl <;> simp [Tm.kids, Tm.size] <;> omega
theorem sizes_take_le (l : List Tm) (i : Nat) : sizes (l.take i) ≤ sizes l := by
  have : sizes l = sizes (l.take i) + sizes (l.drop i) := by unfold sizes; rw [← List.sum_append, ← List.map_append, List.take_append_drop]
  omega

set_option maxHeartbeats 1000000 in
theorem size_any (n : Nat) : ∀ (t : Tm) (w : World) (N b : Nat), t.size ≤ n → n ≤ 1000000 → Lies w N t b →
    Calls Tryz.prog 78 #[.pointer (some ⟨b, 0, none⟩)] w fun e w' => e = .returned (.int .i64 (t.size : Nat)) ∧ w = w' := by
  induction n with
  | zero => intro t w N b h; have := t.size_pos; omega
  | succ n ih =>
    intro t w N b hs hn hl
    obtain ⟨o, cap, _, _, _, c3, hk⟩ := hl.at
    have hlen : t.kids.length ≤ 2 := by cases t <;> simp [Tm.kids]
    have HK := Lib.hid hk; clear hk
    have HS := Lib.hid (sizes_kids t)
    go_enter Tryz.func78, Tryz.ntmps78
    go_wp2_with fail
    go_loop [3, 11] (fun a i => ∃ k : Nat, k ≤ t.kids.length ∧ i = .int .i64 k ∧ a = .int .i64 ((1 + sizes (t.kids.take k) : Nat) : Int)) (fun _ i => t.kids.length - (intOf i).toNat)
    case atStart => exact ⟨0, Nat.zero_le _, rfl, rfl⟩
    case round =>
      obtain ⟨k, hk, rfl, rfl⟩ := hrel
      by_cases hlt : k < t.kids.length
      · obtain ⟨r, x, rfl, hc, hx⟩ := HK.out k hlt
        have h1 := sizes_take_succ t.kids k hlt
        have h2 := kid_le t k hlt
        have h3 := sizes_take_le t.kids (k + 1)
        have h4 := HS.out
        have h5 : (sizes (List.take k t.kids)) + t.kids[k].size ≤ 1000000 := by omega
        have H1 := Lib.hid h1; clear h1 h3 h4
        go_wp2_with fail
        refine (ih _ _ N _ (by omega) (by omega) hx).mono ?_
        rintro e w' ⟨rfl, rfl⟩
        go_wp2_with fail
        go_round
        case rel => exact ⟨k + 1, by omega, by go_num, by rw [H1.out]; go_num⟩
        case measure => simp [intOf]; omega
      · have hke : k = t.kids.length := by omega
        have HF : Hid (1 + sizes (t.kids.take k) = t.size) := by rw [hke, List.take_length]; exact HS.out
        clear hke
        go_wp2_with fail
        go_ret
        exact ⟨ret_int (by have := HF.out; omega), rfl⟩
end Go.Proofs.YtjgfgjhaghbehaaGreat
namespace Go.Proofs.YtjgfgjhaghbehaaGreat
open Go.RowKit Go.Proofs.YtjgfgjhaghbehaaGreatW.PrintWords Go.Proofs.YtjgfgjhaghbehaaGreatW.PrintMore

def letAt (i : Nat) : UInt8 := UInt8.ofNat (97 + i)
theorem letAt_vl {i : Nat} (h : i < 150) : vl (letAt i) = 97 + i := by
  unfold vl letAt; rw [UInt8.toNat_ofNat', Nat.mod_eq_of_lt (by omega)]; omega
theorem isLet_iff {c : UInt8} : isLet c = true ↔ ∃ i, i < 26 ∧ c = letAt i := by
  constructor
  · intro h
    simp [isLet] at h
    refine ⟨(vl c - 97).toNat, by omega, vl_inj.mp ?_⟩
    rw [letAt_vl (by omega)]; omega
  · rintro ⟨i, hi, rfl⟩
    simp [isLet, letAt_vl (show i < 150 by omega)]; omega

def sN (p : UInt8 → Bool) : Nat → Nat
  | 0 => 0
  | n + 1 => sN p n ||| (if p (letAt n) then 2 ^ n else 0)
theorem sN_lt (p : UInt8 → Bool) : ∀ n, sN p n < 2 ^ n
  | 0 => by simp [sN]
  | n + 1 => by
    have h := sN_lt p n
    unfold sN
    refine Nat.or_lt_two_pow (by rw [Nat.pow_succ]; omega) ?_
    split
    · rw [Nat.pow_succ]; have := Nat.two_pow_pos n; omega
    · exact Nat.two_pow_pos _
theorem sN_test (p : UInt8 → Bool) (i : Nat) : ∀ n, (sN p n).testBit i = (decide (i < n) && p (letAt i))
  | 0 => by simp [sN]
  | n + 1 => by
    unfold sN
    rw [Nat.testBit_or, sN_test p i n]
    by_cases h : i = n
    · subst h
      by_cases hp : p (letAt i) = true <;> simp [hp, Nat.testBit_two_pow_self]
    · have e : ((if p (letAt n) then 2 ^ n else 0 : Nat)).testBit i = false := by
        split
        · rw [Nat.testBit_two_pow]; simp; omega
        · simp
      rw [e, Bool.or_false]
      congr 1
      rw [decide_eq_decide]; omega
def setN (p : UInt8 → Bool) : Nat := sN p 26
def setI (p : UInt8 → Bool) : Int := (setN p : Nat)
theorem setN_lt (p : UInt8 → Bool) : setN p < 4294967296 := Nat.lt_of_lt_of_le (sN_lt p 26) (by decide)
theorem setN_test (p : UInt8 → Bool) (i : Nat) : (setN p).testBit i = (decide (i < 26) && p (letAt i)) := sN_test p i 26
theorem setI_range (p : UInt8 → Bool) : 0 ≤ setI p ∧ setI p < 4294967296 := by have := setN_lt p; unfold setI; omega
theorem setN_congr {p q : UInt8 → Bool} (h : ∀ c, isLet c = true → p c = q c) : setN p = setN q := by
  apply Nat.eq_of_testBit_eq
  intro i
  rw [setN_test, setN_test]
  by_cases hi : i < 26
  · rw [h _ (isLet_iff.mpr ⟨i, hi, rfl⟩)]
  · simp [hi]
theorem setI_congr {p q : UInt8 → Bool} (h : ∀ c, isLet c = true → p c = q c) : setI p = setI q := by unfold setI; rw [setN_congr h]
def orS (p q : UInt8 → Bool) : UInt8 → Bool := fun c => p c || q c
def andS (p q : UInt8 → Bool) : UInt8 → Bool := fun c => p c && q c
def minusS (p q : UInt8 → Bool) : UInt8 → Bool := fun c => p c && !q c
def eqS (d : UInt8) : UInt8 → Bool := fun c => c == d
def inS (l : List UInt8) : UInt8 → Bool := fun c => l.contains c
def noS : UInt8 → Bool := fun _ => false
theorem eqS_self (c : UInt8) : eqS c c = true := by simp [eqS]
theorem set_or (p q : UInt8 → Bool) : Go.bits .or .u32 (setI p) (setI q) = setI (orS p q) := by
  unfold setI
  rw [u32_or_nat _ _ (setN_lt p) (setN_lt q)]
  congr 1
  apply Nat.eq_of_testBit_eq
  intro i
  rw [Nat.testBit_or, setN_test, setN_test, setN_test]
  cases decide (i < 26) <;> simp [orS]
theorem set_and (p q : UInt8 → Bool) : Go.bits .and .u32 (setI p) (setI q) = setI (andS p q) := by
  unfold setI
  rw [u32_and_nat _ _ (setN_lt p) (setN_lt q)]
  congr 1
  apply Nat.eq_of_testBit_eq
  intro i
  rw [Nat.testBit_and, setN_test, setN_test, setN_test]
  cases decide (i < 26) <;> simp [andS]
theorem set_andNot (p q : UInt8 → Bool) : Go.bits .andNot .u32 (setI p) (setI q) = setI (minusS p q) := by
  unfold setI
  rw [u32_andNot_nat _ _ (setN_lt p) (setN_lt q)]
  congr 1
  apply Nat.eq_of_testBit_eq
  intro i
  have h := setN_lt q
  rw [Nat.testBit_and, show 4294967295 - setN q = 2 ^ 32 - (setN q + 1) from by omega, Nat.testBit_two_pow_sub_succ (by omega), setN_test, setN_test, setN_test]
  by_cases hi : i < 26
  · simp [hi, show i < 32 by omega, minusS]
  · simp [hi]
theorem setI_zero (p : UInt8 → Bool) : setI p = 0 ↔ ∀ c, isLet c = true → p c = false := by
  constructor
  · intro h c hc
    obtain ⟨i, hi, rfl⟩ := isLet_iff.mp hc
    have h0 : setN p = 0 := by unfold setI at h; omega
    have := setN_test p i
    rw [h0] at this
    simpa [hi] using this.symm
  · intro h
    unfold setI
    have : setN p = 0 := by
      apply Nat.eq_of_testBit_eq
      intro i
      rw [setN_test]
      by_cases hi : i < 26
      · rw [h _ (isLet_iff.mpr ⟨i, hi, rfl⟩)]; simp
      · simp [hi]
    rw [this]; rfl
theorem setI_empty : setI noS = 0 := (setI_zero _).mpr fun _ _ => rfl
theorem set_bit {c : UInt8} (h : isLet c = true) : shl .u32 1 ((vl c - 97) % 256) = setI (eqS c) := by
  obtain ⟨i, hi, rfl⟩ := isLet_iff.mp h
  rw [letAt_vl (by omega)]
  have e : setN (eqS (letAt i)) = 2 ^ i := by
    apply Nat.eq_of_testBit_eq
    intro j
    rw [setN_test, Nat.testBit_two_pow]
    by_cases hj : j < 26
    · by_cases hij : i = j
      · subst hij; simp [hj, eqS]
      · have : ¬ letAt j = letAt i := by
          intro e
          have := congrArg vl e
          rw [letAt_vl (by omega), letAt_vl (by omega)] at this
          omega
        simp [hij, this, eqS]
    · simp [hj]; omega
  unfold setI
  rw [e]
  unfold shl
  have h1 : ((97 + (i : Int) - 97) % 256).toNat = i := by omega
  rw [h1, show min i IntKind.u32.bits = i from Nat.min_eq_left (by show i ≤ 32; omega), IntKind.wrap_u32]
  have : 2 ^ i < 2 ^ 32 := Nat.pow_lt_pow_right (by omega) (by omega)
  have e2 : ((2 : Int) ^ i) = ((2 ^ i : Nat) : Int) := by simp
  rw [e2]; omega
theorem set_test (p : UInt8 → Bool) {c : UInt8} (h : isLet c = true) : Go.bits .and .u32 (setI p) (setI (eqS c)) = 0 ↔ p c = false := by
  rw [set_and, setI_zero]
  constructor
  · intro k; simpa [andS, eqS] using k c h
  · intro k d _
    by_cases e : d = c
    · subst e; simp [k, andS]
    · simp [e, andS, eqS]

def letsFrom (i : Nat) : List UInt8 := (List.range (26 - i)).map fun j => letAt (i + j)
theorem letsFrom_step {i : Nat} (h : i < 26) : letsFrom i = letAt i :: letsFrom (i + 1) := by
  unfold letsFrom
  rw [show 26 - i = (26 - (i + 1)) + 1 from by omega, List.range_succ_eq_map, List.map_cons, List.map_map]
  simp only [Nat.add_zero]
  congr 1
  apply List.map_congr_left
  intro j _
  show letAt (i + (j + 1)) = letAt (i + 1 + j)
  congr 1; omega
theorem letsFrom_end {i : Nat} (h : 26 ≤ i) : letsFrom i = [] := by unfold letsFrom; rw [show 26 - i = 0 from by omega]; rfl
theorem mem_lets {c : UInt8} : c ∈ letsFrom 0 ↔ isLet c = true := by
  unfold letsFrom
  rw [isLet_iff]
  simp only [Nat.zero_add, List.mem_map, List.mem_range, Nat.sub_zero]
  exact ⟨fun ⟨i, h, e⟩ => ⟨i, h, e.symm⟩, fun ⟨i, h, e⟩ => ⟨i, h, e.symm⟩⟩
def freshOf (p : UInt8 → Bool) : Option UInt8 := (letsFrom 0).find? fun c => !p c
theorem freshOf_let {p : UInt8 → Bool} {c : UInt8} (h : freshOf p = some c) : isLet c = true ∧ p c = false := by
  have h1 := List.mem_of_find?_eq_some h
  have h2 := List.find?_some h
  exact ⟨mem_lets.mp h1, by simpa using h2⟩
theorem find_congr {α : Type} {p q : α → Bool} {l : List α} (h : ∀ c, c ∈ l → p c = q c) : l.find? p = l.find? q := by
  induction l with
  | nil => rfl
  | cons a l ih =>
    rw [List.find?_cons, List.find?_cons, h a (by simp), ih fun c hc => h c (by simp [hc])]
theorem freshOf_congr {p q : UInt8 → Bool} (h : ∀ c, isLet c = true → p c = q c) : freshOf p = freshOf q :=
  find_congr fun c hc => by rw [h c (mem_lets.mp hc)]

def beyFrom (i : Nat) : List UInt8 := (List.range (63 - i)).map fun j => UInt8.ofNat (128 + (i + j))
def freshB (p : UInt8 → Bool) : UInt8 := match freshOf p with
  | some c => c
  | none => ((beyFrom 0).find? fun c => !p c).getD 191
theorem beyFrom_step {i : Nat} (h : i < 63) : beyFrom i = UInt8.ofNat (128 + i) :: beyFrom (i + 1) := by
  unfold beyFrom
  rw [show 63 - i = (63 - (i + 1)) + 1 from by omega, List.range_succ_eq_map, List.map_cons, List.map_map]
  simp only [Nat.add_zero]
  congr 1
  apply List.map_congr_left
  intro j _
  show UInt8.ofNat (128 + (i + (j + 1))) = UInt8.ofNat (128 + (i + 1 + j))
  congr 1; omega
theorem beyFrom_end : beyFrom 63 = [] := rfl
theorem bey_vl {i : Nat} (h : i < 64) : vl (UInt8.ofNat (128 + i)) = 128 + i := by
  unfold vl; rw [UInt8.toNat_ofNat', Nat.mod_eq_of_lt (by omega)]; omega

end Go.Proofs.YtjgfgjhaghbehaaGreat
namespace Go.Proofs.YtjgfgjhaghbehaaGreat
open Go.RowKit Go.Proofs.YtjgfgjhaghbehaaGreatW.PrintWords Go.Proofs.YtjgfgjhaghbehaaGreatW.PrintMore

def sortL (p : UInt8 → Bool) : List UInt8 := (letsFrom 0).filter p
def sortTo (p : UInt8 → Bool) (i : Nat) : List UInt8 := ((List.range i).map letAt).filter p
theorem sortTo_all (p : UInt8 → Bool) : sortTo p 26 = sortL p := by
  unfold sortTo sortL letsFrom
  simp only [Nat.zero_add, Nat.sub_zero]
theorem sortTo_succ (p : UInt8 → Bool) (i : Nat) : sortTo p (i + 1) = sortTo p i ++ if p (letAt i) then [letAt i] else [] := by
  unfold sortTo
  rw [List.range_succ, List.map_append, List.filter_append]
  congr 1
  cases h : p (letAt i) <;> simp [h]
theorem sortTo_len (p : UInt8 → Bool) (i : Nat) : (sortTo p i).length ≤ i := by
  unfold sortTo
  exact Nat.le_trans (List.length_filter_le _ _) (by simp)

def insL (c : UInt8) : List UInt8 → List UInt8
  | [] => [c]
  | d :: l => if vl d < vl c then d :: insL c l else if d = c then d :: l else c :: d :: l
theorem insL_cons (c d : UInt8) (l : List UInt8) : insL c (d :: l) = if vl d < vl c then d :: insL c l else if d = c then d :: l else c :: d :: l := rfl
def bothL (s t : List UInt8) : List UInt8 := t.foldl (fun s c => insL c s) s
theorem insL_len (c : UInt8) (l : List UInt8) : (insL c l).length ≤ l.length + 1 := by
  induction l with
  | nil => simp [insL]
  | cons d l ih => unfold insL; repeat' split
                   all_goals (simp only [List.length_cons]; try omega)
theorem mem_from {i : Nat} {c : UInt8} : c ∈ letsFrom i ↔ ∃ j, i ≤ j ∧ j < 26 ∧ c = letAt j := by
  unfold letsFrom
  simp only [List.mem_map, List.mem_range]
  constructor
  · rintro ⟨k, hk, rfl⟩; exact ⟨i + k, by omega, by omega, rfl⟩
  · rintro ⟨j, h1, h2, rfl⟩; exact ⟨j - i, by omega, by congr 1; omega⟩
theorem letAt_inj {i j : Nat} (hi : i < 150) (hj : j < 150) (h : letAt i = letAt j) : i = j := by
  have := congrArg vl h
  rw [letAt_vl hi, letAt_vl hj] at this
  omega
theorem insL_before {c : UInt8} {l : List UInt8} (h : ∀ d, d ∈ l → vl c < vl d) : insL c l = c :: l := by
  cases l with
  | nil => rfl
  | cons d l =>
    have h1 := h d (by simp)
    unfold insL
    rw [if_neg (by omega), if_neg (by rintro rfl; omega)]
theorem ins_from (p : UInt8 → Bool) (j : Nat) (hj : j < 26) (n : Nat) : ∀ i, i + n = j → insL (letAt j) ((letsFrom i).filter p) = (letsFrom i).filter (orS p (eqS (letAt j))) := by
  induction n with
  | zero =>
    intro i hi
    obtain rfl : i = j := by omega
    rw [letsFrom_step hj]
    have hrest : (letsFrom (i + 1)).filter (orS p (eqS (letAt i))) = (letsFrom (i + 1)).filter p := by
      apply List.filter_congr
      intro d hd
      obtain ⟨k, h1, h2, rfl⟩ := mem_from.mp hd
      have : letAt k ≠ letAt i := fun e => by have := letAt_inj (by omega) (by omega) e; omega
      simp [orS, eqS, this]
    rw [List.filter_cons, List.filter_cons, hrest, if_pos (show orS p (eqS (letAt i)) (letAt i) = true from by simp [orS, eqS])]
    by_cases hp : p (letAt i) = true
    · rw [if_pos hp]
      unfold insL
      rw [if_neg (by omega), if_pos rfl]
    · rw [if_neg hp]
      apply insL_before
      intro d hd
      obtain ⟨k, h1, h2, rfl⟩ := mem_from.mp (List.mem_filter.mp hd).1
      rw [letAt_vl (by omega), letAt_vl (by omega)]; omega
  | succ n ih =>
    intro i hi
    have hlt : i < 26 := by omega
    rw [letsFrom_step hlt, List.filter_cons, List.filter_cons, ← ih (i + 1) (by omega)]
    have hne : ¬ letAt i = letAt j := fun e => by have := letAt_inj (by omega) (by omega) e; omega
    have ho : orS p (eqS (letAt j)) (letAt i) = p (letAt i) := by simp [orS, eqS, hne]
    rw [ho]
    by_cases hp : p (letAt i) = true
    · rw [if_pos hp, if_pos hp]
      conv => lhs; unfold insL
      rw [if_pos (by rw [letAt_vl (by omega), letAt_vl (by omega)]; omega)]
    · rw [if_neg hp, if_neg hp]
theorem ins_sort (p : UInt8 → Bool) {c : UInt8} (hc : isLet c = true) : insL c (sortL p) = sortL (orS p (eqS c)) := by
  obtain ⟨j, hj, rfl⟩ := isLet_iff.mp hc
  exact ins_from p j hj j 0 (by omega)
theorem both_sort (t : List UInt8) : ∀ (p : UInt8 → Bool), (∀ c, c ∈ t → isLet c = true) → bothL (sortL p) t = sortL (orS p (inS t)) := by
  induction t with
  | nil => intro p _; show sortL p = _; congr 1; funext c; simp [orS, inS]
  | cons d t ih =>
    intro p h
    show bothL (insL d (sortL p)) t = _
    rw [ins_sort p (h d (by simp)), ih _ fun c hc => h c (by simp [hc])]
    congr 1
    funext c
    simp only [orS, inS, eqS, List.contains_cons, Bool.or_assoc]
theorem sort_congr {p q : UInt8 → Bool} (h : ∀ c, isLet c = true → p c = q c) : sortL p = sortL q :=
  List.filter_congr fun c hc => h c (mem_lets.mp hc)
theorem sort_mem {p : UInt8 → Bool} {c : UInt8} : c ∈ sortL p ↔ isLet c = true ∧ p c = true := by
  unfold sortL; rw [List.mem_filter, mem_lets]
theorem sort_both (p q : UInt8 → Bool) : bothL (sortL p) (sortL q) = sortL (orS p q) := by
  rw [both_sort _ _ fun c hc => (sort_mem.mp hc).1]
  apply sort_congr
  intro c hc
  have : inS (sortL q) c = q c := by
    unfold inS
    rw [Bool.eq_iff_iff, List.contains_iff_mem, sort_mem]
    simp [hc]
  simp [orS, this]
theorem sort_less (p : UInt8 → Bool) (c : UInt8) : (sortL p).filter (fun d => d != c) = sortL (minusS p (eqS c)) := by
  unfold sortL
  rw [List.filter_filter]
  apply List.filter_congr
  intro d _
  simp only [minusS, eqS, bne]
  cases p d <;> cases d == c <;> rfl
theorem sort_len (p : UInt8 → Bool) : (sortL p).length ≤ 26 := by rw [← sortTo_all]; exact sortTo_len p 26
theorem sort_no : sortL noS = [] := by simp [sortL, noS]

end Go.Proofs.YtjgfgjhaghbehaaGreat
namespace Go.Proofs.YtjgfgjhaghbehaaGreat
open Go.RowKit Go.Proofs.YtjgfgjhaghbehaaGreatW.PrintWords Go.Proofs.YtjgfgjhaghbehaaGreatW.PrintMore

def bndOf (k b : UInt8) : List UInt8 := if k = 63 ∨ k = 35 then [b] else []
def Tm.binders : Tm → List UInt8
  | .leaf _ _ _ => []
  | .un k _ b t => bndOf k b ++ t.binders
  | .bin _ _ _ t u => t.binders ++ u.binders
def Tm.bd : Tm → UInt8 → Bool
  | .leaf _ _ _ => noS
  | .un k _ b t => if k = 63 ∨ k = 35 then orS t.bd (eqS b) else t.bd
  | .bin _ _ _ t u => orS t.bd u.bd
theorem binders_len (t : Tm) : t.binders.length ≤ t.size := by
  induction t with
  | leaf => simp [Tm.binders]
  | un k a b t ih => simp only [Tm.binders, Tm.size, List.length_append, bndOf]; split <;> simp <;> omega
  | bin k a b t u ih1 ih2 => simp only [Tm.binders, Tm.size, List.length_append]; omega
theorem binders_let {t : Tm} (h : Wf isLet t) : ∀ c, c ∈ t.binders → isLet c = true := by
  induction t with
  | leaf => intro c hc; simp [Tm.binders] at hc
  | un k a b t ih =>
    intro c hc
    simp only [Tm.binders, List.mem_append, bndOf] at hc
    rcases hc with hc | hc
    · split at hc
      · rename_i hk
        simp only [List.mem_singleton] at hc
        subst hc
        rcases h.1 with ⟨_, _, hb⟩ | ⟨_, _, hb⟩ | ⟨hk2, _, _⟩
        · exact hb
        · exact hb
        · rcases hk2 with rfl | rfl <;> exact absurd hk (by decide)
      · simp at hc
    · exact ih h.2 c hc
  | bin k a b t u ih1 ih2 =>
    intro c hc
    simp only [Tm.binders, List.mem_append] at hc
    rcases hc with hc | hc
    · exact ih1 h.2.2.2.1 c hc
    · exact ih2 h.2.2.2.2 c hc
theorem binders_in (t : Tm) : inS t.binders = t.bd := by
  induction t with
  | leaf => funext c; simp [Tm.binders, Tm.bd, inS, noS]
  | un k a b t ih =>
    funext c
    simp only [Tm.binders, Tm.bd, ← ih, bndOf]
    split
    · simp only [inS, orS, eqS, List.contains_cons, List.cons_append, List.nil_append, Bool.or_comm]
    · rfl
  | bin k a b t u ih1 ih2 =>
    funext c
    simp only [Tm.binders, Tm.bd, ← ih1, ← ih2]
    simp [inS, orS]
def bds (l : List Tm) : UInt8 → Bool := l.foldl (fun a t => orS a t.bd) noS
theorem bds_take_succ (l : List Tm) (i : Nat) (h : i < l.length) : bds (l.take (i + 1)) = orS (bds (l.take i)) l[i].bd := by
  unfold bds; rw [List.take_succ_eq_append_getElem h, List.foldl_append]; rfl
theorem bd_kids (t : Tm) (hw : Wf isLet t) : ((t.kind = 63 ∨ t.kind = 35) ∧ isLet t.nb = true ∧ t.bd = orS (bds t.kids) (eqS t.nb)) ∨ (¬ (t.kind = 63 ∨ t.kind = 35) ∧ t.bd = bds t.kids) := by
  have orS_no : ∀ p, orS noS p = p := fun p => by funext c; simp [orS, noS]
  cases t with
  | leaf k a b => obtain rfl := hw.1; exact .inr ⟨by simp [Tm.kind], rfl⟩
  | un k a b t =>
    simp only [Tm.kind, Tm.nb, Tm.kids, bds, List.foldl, orS_no, Tm.bd]
    by_cases hk : k = 63 ∨ k = 35
    · refine .inl ⟨hk, ?_, by rw [if_pos hk]⟩
      rcases hw.1 with ⟨_, _, hb⟩ | ⟨_, _, hb⟩ | ⟨hk2, _, _⟩
      · exact hb
      · exact hb
      · rcases hk2 with rfl | rfl <;> exact absurd hk (by decide)
    · exact .inr ⟨hk, by rw [if_neg hk]⟩
  | bin k a b t u =>
    refine .inr ⟨?_, by simp only [Tm.kids, bds, List.foldl, orS_no, Tm.bd]⟩
    simp only [Tm.kind]
    rcases hw.1 with rfl | rfl <;> decide

end Go.Proofs.YtjgfgjhaghbehaaGreat
namespace Go.Proofs.YtjgfgjhaghbehaaGreat
open Go.RowKit Go.Proofs.YtjgfgjhaghbehaaGreatW.PrintWords Go.Proofs.YtjgfgjhaghbehaaGreatW.PrintMore
set_option linter.unusedVariables false
set_option linter.unusedSimpArgs false

theorem let_index {c : UInt8} (h : isLet c = true) : ∃ i : Nat, i < 26 ∧ vl c = 97 + i ∧ c = letAt i := by
  obtain ⟨i, hi, rfl⟩ := isLet_iff.mp h
  exact ⟨i, hi, letAt_vl (by omega), rfl⟩

theorem bit_val {i : Nat} (hi : i < 26) : (2 : Int) ^ i % 4294967296 = setI (eqS (letAt i)) := by
  have hs := set_bit (isLet_iff.mpr ⟨i, hi, rfl⟩)
  rw [letAt_vl (by omega), show (97 + (i : Int) - 97) % 256 = (i : Int) from by omega] at hs
  rw [← hs]
  unfold shl
  rw [show min (i : Int).toNat IntKind.u32.bits = i from Nat.min_eq_left (by show i ≤ 32; omega), IntKind.wrap_u32, Int.one_mul]

set_option maxHeartbeats 400000 in
theorem bit_calls {c : UInt8} (h : isLet c = true) (w : World) : Calls Tryz.prog 47 #[.int .u8 (vl c)] w fun e w' => e = .returned (.int .u32 (setI (eqS c))) ∧ w = w' := by
  obtain ⟨i, hi, hv, rfl⟩ := let_index h
  rw [hv]
  have HS := Lib.hid (bit_val hi)
  have e1 : ((97 : Int) + i - 97) = i := by omega
  clear hv h
  go_enter Tryz.func47, Tryz.ntmps47
  go_wp2_with fail
  go_ret
  exact ⟨by rw [← HS.out]; rfl, rfl⟩

set_option maxHeartbeats 400000 in
theorem isLetter_calls (c : UInt8) (w : World) : Calls Tryz.prog 79 #[.int .u8 (vl c)] w fun e w' => e = .returned (.bool (isLet c)) ∧ w = w' := by
  obtain ⟨v0, v1⟩ := vl_range c
  have HL : Hid (isLet c = (decide (97 ≤ vl c) && decide (vl c ≤ 122))) := rfl
  by_cases h1 : 97 ≤ vl c
  · go_enter Tryz.func79, Tryz.ntmps79
    go_wp2_with fail
    go_ret
    exact ⟨by rw [HL.out]; simp [h1]; try omega, rfl⟩
  · go_enter Tryz.func79, Tryz.ntmps79
    go_wp2_with fail
    go_ret
    exact ⟨by rw [HL.out]; simp [h1]; try omega, rfl⟩

end Go.Proofs.YtjgfgjhaghbehaaGreat
namespace Go.Proofs.YtjgfgjhaghbehaaGreat
open Go.RowKit Go.Proofs.YtjgfgjhaghbehaaGreatW.PrintWords Go.Proofs.YtjgfgjhaghbehaaGreatW.PrintMore
set_option linter.unusedVariables false
set_option linter.unusedSimpArgs false

def Tm.fr : Tm → UInt8 → Bool
  | .leaf _ _ _ => noS
  | .un k a b t => if k = 33 ∨ k = 61 then orS t.fr (orS (eqS a) (eqS b)) else if k = 63 then orS (minusS t.fr (eqS b)) (eqS a) else if k = 35 then minusS t.fr (eqS b) else t.fr
  | .bin _ _ _ t u => orS t.fr u.fr
def frs (l : List Tm) : UInt8 → Bool := l.foldl (fun a t => orS a t.fr) noS
theorem frs_take_succ (l : List Tm) (i : Nat) (h : i < l.length) : frs (l.take (i + 1)) = orS (frs (l.take i)) l[i].fr := by
  unfold frs; rw [List.take_succ_eq_append_getElem h, List.foldl_append]; rfl
theorem orS_no (p : UInt8 → Bool) : orS noS p = p := by funext c; simp [orS, noS]
theorem kid_wf {P : UInt8 → Bool} {t : Tm} (h : Wf P t) (i : Nat) (hi : i < t.kids.length) : Wf P t.kids[i] := by
  cases t with
  | leaf => simp [Tm.kids] at hi
  | un => simp [Tm.kids] at hi; subst hi; exact h.2
  | bin => simp [Tm.kids] at hi; rcases (by omega : i = 0 ∨ i = 1) with rfl | rfl
           · exact h.2.2.2.1
           · exact h.2.2.2.2
theorem fr_kids {t : Tm} (h : Wf isLet t) :
    ((t.kind = 33 ∨ t.kind = 61) ∧ isLet t.na = true ∧ isLet t.nb = true ∧ t.fr = orS (frs t.kids) (orS (eqS t.na) (eqS t.nb))) ∨
    (t.kind = 63 ∧ isLet t.na = true ∧ isLet t.nb = true ∧ t.fr = orS (minusS (frs t.kids) (eqS t.nb)) (eqS t.na)) ∨
    (t.kind = 35 ∧ isLet t.nb = true ∧ t.fr = minusS (frs t.kids) (eqS t.nb)) ∨
    (t.kind ≠ 33 ∧ t.kind ≠ 61 ∧ t.kind ≠ 63 ∧ t.kind ≠ 35 ∧ t.fr = frs t.kids) := by
  cases t with
  | leaf k a b =>
    obtain ⟨rfl, _⟩ := h
    exact .inr (.inr (.inr ⟨by simp [Tm.kind], by simp [Tm.kind], by simp [Tm.kind], by simp [Tm.kind], rfl⟩))
  | un k a b t =>
    have e : frs (Tm.un k a b t).kids = t.fr := by simp [frs, Tm.kids, orS_no]
    rw [e]
    simp only [Tm.kind, Tm.na, Tm.nb, Tm.fr]
    rcases h.1 with ⟨hk, ha, hb⟩ | ⟨rfl, _, hb⟩ | ⟨hk, _, _⟩
    · rcases hk with rfl | rfl | rfl
      · exact .inl ⟨.inl rfl, ha, hb, by simp⟩
      · exact .inr (.inl ⟨rfl, ha, hb, by simp⟩)
      · exact .inl ⟨.inr rfl, ha, hb, by simp⟩
    · exact .inr (.inr (.inl ⟨rfl, hb, by simp⟩))
    · rcases hk with rfl | rfl <;> exact .inr (.inr (.inr ⟨by decide, by decide, by decide, by decide, by simp⟩))
  | bin k a b t u =>
    have e : frs (Tm.bin k a b t u).kids = orS t.fr u.fr := by simp [frs, Tm.kids, orS_no]
    rw [e]
    simp only [Tm.kind, Tm.fr]
    rcases h.1 with rfl | rfl <;> exact .inr (.inr (.inr ⟨by decide, by decide, by decide, by decide, trivial⟩))

def bindsB (k : UInt8) : Bool := decide (k = 63 ∨ k = 35)
set_option maxHeartbeats 1000000 in
theorem binds_calls (k : UInt8) (b : Nat) (w : World) (hc : w.cell? ⟨b, 0, none⟩ = some (.int .u8 (vl k))) : Calls Tryz.prog 80 #[.pointer (some ⟨b, 0, none⟩)] w fun e w' => e = .returned (.bool (bindsB k)) ∧ w = w' := by
  have e1 : (vl k == 63) = decide (k = 63) := by rw [Bool.eq_iff_iff]; simp [← vl_inj]; rfl
  have e2 : (vl k == 35) = decide (k = 35) := by rw [Bool.eq_iff_iff]; simp [← vl_inj]; rfl
  by_cases h1 : k = 63
  · subst h1
    go_enter Tryz.func80, Tryz.ntmps80
    go_wp2_with fail
    go_ret
    exact ⟨rfl, rfl⟩
  · by_cases h2 : k = 35
    · subst h2
      go_enter Tryz.func80, Tryz.ntmps80
      go_wp2_with fail
      go_ret
      exact ⟨rfl, rfl⟩
    · have hb : Hid (bindsB k = false) := by simp [Hid, bindsB, h1, h2]
      simp only [h1, h2, decide_false] at e1 e2
      clear h1 h2
      go_enter Tryz.func80, Tryz.ntmps80
      go_wp2_with fail
      go_ret
      exact ⟨by rw [hb.out]; rfl, rfl⟩


theorem bindsB_eq (k : UInt8) : bindsB k = decide (k = 63 ∨ k = 35) := by
  unfold bindsB; rw [Bool.eq_iff_iff]; first | done | simp
theorem eq_vl {x : UInt8} (y : UInt8) : (vl x == vl y) = decide (x = y) := by rw [Bool.eq_iff_iff]; simp [← vl_inj]
theorem drewN_two (w : World) (m k : Nat) : (w.drewN m).drewN k = w.drewN (m + k) := World.drewN_drewN w m k

theorem bit_same {c : UInt8} (h : isLet c = true) (w : World) : Calls Tryz.prog 47 #[.int .u8 (vl c)] w fun e w' => e = .returned (.int .u32 (setI (eqS c))) ∧ w' = w :=
  (bit_calls h w).mono fun _ _ ⟨h1, h2⟩ => ⟨h1, h2.symm⟩
def FreeUpto (n : Nat) : Prop := ∀ (t : Tm) (w : World) (N b : Nat), t.size ≤ n → n ≤ 1000000 → Wf isLet t → Lies w N t b →
    Calls Tryz.prog 46 #[.pointer (some ⟨b, 0, none⟩)] w fun e w' => e = .returned (.int .u32 (setI t.fr)) ∧ ∃ m, w' = w.drewN m

set_option maxHeartbeats 4000000 in
set_option maxRecDepth 100000 in
theorem free_any (n : Nat) : FreeUpto n := by
  induction n with
  | zero => intro t w N b h; have := t.size_pos; omega
  | succ n ih =>
    intro t w N b hs hn hw hl
    obtain ⟨o, cap, c0, c1, c2, c3, hk⟩ := hl.at
    have hlen : t.kids.length ≤ 2 := by cases t <;> simp [Tm.kids]
    have HK := Lib.hid hk; clear hk
    have HW := Lib.hid hw; clear hw
    go_enter Tryz.func46, Tryz.ntmps46
    go_wp2_with fail
    go_loopw [3, 11] (fun a i wr => ∃ k : Nat, k ≤ t.kids.length ∧ i = .int .i64 k ∧ a = .int .u32 (setI (frs (t.kids.take k))) ∧ ∃ m, wr = w.drewN m) (fun _ i _ => t.kids.length - (intOf i).toNat)
    case atStart => exact ⟨0, Nat.zero_le _, rfl, by rw [List.take_zero, show frs [] = noS from rfl, setI_empty], 0, rfl⟩
    case round =>
      obtain ⟨k, hk, rfl, rfl, m, rfl⟩ := hrel
      by_cases hlt : k < t.kids.length
      · obtain ⟨r, x, rfl, hc, hx⟩ := HK.out k hlt
        have h1 := Lib.hid (frs_take_succ t.kids k hlt)
        have h2 := kid_le t k hlt
        have HO := Lib.hid (set_or (frs (t.kids.take k)) t.kids[k].fr)
        go_wp2_with fail
        refine (ih _ _ N _ (by omega) (by omega) (kid_wf HW.out k hlt) (hx.drewN _)).mono ?_
        rintro e w' ⟨rfl, m', rfl⟩
        go_wp2_with fail
        go_roundw
        case rel => exact ⟨k + 1, by omega, by go_num, by rw [h1.out, ← HO.out], _, rfl⟩
        case measure => simp [intOf]; omega
      · have hke : k = t.kids.length := by omega
        subst hke
        rw [List.take_length]
        go_wp2_with fail
        refine (binds_calls t.kind b _ (by simpa using c0)).mono ?_
        rintro e w' ⟨rfl, rfl⟩
        have H := fr_kids HW.out
        have q1 := eq_vl (x := t.kind) 33
        have q2 := eq_vl (x := t.kind) 61
        have q3 := eq_vl (x := t.kind) 63
        have p1 : vl 33 = 33 := rfl
        have p2 : vl 61 = 61 := rfl
        have p3 : vl 63 = 63 := rfl
        rw [p1] at q1
        rw [p2] at q2
        rw [p3] at q3
        clear p1 p2 p3
        rcases H with ⟨hkd, ha, hb, hf⟩ | ⟨hkd, ha, hb, hf⟩ | ⟨hkd, hb, hf⟩ | ⟨n1, n2, n3, n4, hf⟩
        · have HF := Lib.hid hf
          have HM := Lib.hid (set_or (frs t.kids) (orS (eqS t.na) (eqS t.nb)))
          have HM2 := Lib.hid (set_or (eqS t.na) (eqS t.nb))
          have hbi : bindsB t.kind = false := by rcases hkd with h | h <;> rw [h] <;> rfl
          have hsw : (vl t.kind == 33) = true ∨ (vl t.kind == 33) = false ∧ (vl t.kind == 61) = true := by
            rw [q1, q2]; rcases hkd with h | h <;> simp [h]
          rw [hbi]
          clear hf hkd hbi q1 q2 q3
          rcases hsw with q1 | ⟨q1, q2⟩
          all_goals
            go_wp2_with fail
            obtain ⟨W, hW⟩ : ∃ W, W = w.drewN m := ⟨_, rfl⟩
            rw [← hW]
            have d1 : W.cell? ⟨b, 1, none⟩ = some (.int .u8 (vl t.na)) := by rw [hW]; exact c1
            have d2 : W.cell? ⟨b, 2, none⟩ = some (.int .u8 (vl t.nb)) := by rw [hW]; exact c2
            have HWd := Lib.hid hW
            clear hW
            go_quiet (first | (go_at_call 47; exact Calls.quiet_of_same (bit_same ha _)) | (go_at_call 47; exact Calls.quiet_of_same (bit_same hb _)))
            go_wp2_with fail
            go_ret
            exact ⟨by rw [HF.out, ← HM.out, ← HM2.out]; rfl, _, by rw [HWd.out]; exact drewN_two _ _ _⟩
        · have HF := Lib.hid hf
          have HM := Lib.hid (set_andNot (frs t.kids) (eqS t.nb))
          have HM2 := Lib.hid (set_or (minusS (frs t.kids) (eqS t.nb)) (eqS t.na))
          have HB := Lib.hid hb
          have HA := Lib.hid ha
          clear hf hb ha
          rw [hkd] at c0 q1 q2 q3
          rw [hkd]
          simp only [show bindsB 63 = true from rfl]
          simp only [show decide ((63 : UInt8) = 33) = false from rfl, show decide ((63 : UInt8) = 61) = false from rfl, show decide ((63 : UInt8) = 63) = true from rfl] at q1 q2 q3
          clear hkd
          go_wp2_with fail
          refine (bit_calls HB.out _).mono ?_
          rintro e w' ⟨rfl, rfl⟩
          go_wp2_with fail
          refine (bit_calls HA.out _).mono ?_
          rintro e w' ⟨rfl, rfl⟩
          go_wp2_with fail
          go_ret
          exact ⟨by rw [HF.out, ← HM2.out, ← HM.out]; rfl, _, rfl⟩
        · have HF := Lib.hid hf
          have HM := Lib.hid (set_andNot (frs t.kids) (eqS t.nb))
          have HB := Lib.hid hb
          clear hf hb
          rw [hkd] at c0 q1 q2 q3
          rw [hkd]
          simp only [show bindsB 35 = true from rfl]
          simp only [show decide ((35 : UInt8) = 33) = false from rfl, show decide ((35 : UInt8) = 61) = false from rfl, show decide ((35 : UInt8) = 63) = false from rfl] at q1 q2 q3
          clear hkd
          go_wp2_with fail
          refine (bit_calls HB.out _).mono ?_
          rintro e w' ⟨rfl, rfl⟩
          go_wp2_with fail
          go_ret
          exact ⟨by rw [HF.out, ← HM.out]; rfl, _, rfl⟩
        · have HF := Lib.hid hf
          have hbi : bindsB t.kind = false := by simp [bindsB, n3, n4]
          rw [hbi]
          simp only [n1, n2, n3, decide_false] at q1 q2 q3
          clear hf n1 n2 n3 n4 hbi
          go_wp2_with fail
          go_ret
          exact ⟨by rw [HF.out]; rfl, _, rfl⟩

end Go.Proofs.YtjgfgjhaghbehaaGreat
namespace Go.Proofs.YtjgfgjhaghbehaaGreat
open Go.RowKit Go.Proofs.YtjgfgjhaghbehaaGreatW.PrintWords Go.Proofs.YtjgfgjhaghbehaaGreatW.PrintMore
set_option linter.unusedVariables false
set_option linter.unusedSimpArgs false

set_option maxHeartbeats 1000000 in
theorem letters_calls (p : UInt8 → Bool) (w : World) : Calls Tryz.prog 48 #[.int .u32 (setI p)] w fun e w' => e = .returned (.string (B (sortL p))) ∧ w = w' := by
  have HP : Hid (∀ i, i < 26 → (Go.bits .and .u32 (setI p) (setI (eqS (letAt i))) = 0 ↔ p (letAt i) = false)) := fun i hi => set_test p (isLet_iff.mpr ⟨i, hi, rfl⟩)
  go_enter Tryz.func48, Tryz.ntmps48
  go_wp2_with fail
  go_loop [3, 4] (fun o c => ∃ i : Nat, i ≤ 26 ∧ c = .int .u8 (97 + i) ∧ o = .string (B (sortTo p i))) (fun _ c => 26 - (intOf c - 97).toNat)
  case atStart => exact ⟨0, by omega, rfl, rfl⟩
  case round =>
    obtain ⟨i, hi, rfl, rfl⟩ := hrel
    by_cases hlt : i < 26
    · have hb := bit_calls (isLet_iff.mpr ⟨i, hlt, rfl⟩) w
      rw [letAt_vl (by omega)] at hb
      have hpi := HP.out i hlt
      have HS := Lib.hid (sortTo_succ p i)
      go_wp2_with fail
      refine hb.mono ?_
      rintro e w' ⟨rfl, rfl⟩
      by_cases hp : p (letAt i) = true
      · have hne : (Go.bits .and .u32 (setI p) (setI (eqS (letAt i))) != 0) = true := by
          rw [bne_iff_ne]; intro h; rw [hpi.mp h] at hp; cases hp
        have HF2 : Hid (sortTo p (i + 1) = sortTo p i ++ [letAt i]) := by
          show _ = _
          rw [HS.out, hp]; rfl
        clear hb hpi hp
        have hsz : (B (sortTo p i)).size ≤ 26 := by rw [B_size]; have := sortTo_len p i; omega
        have henc : Utf8.encode (97 + (i : Int)) = B [letAt i] := by
          have := enc_small (let_lt (isLet_iff.mpr ⟨i, hlt, rfl⟩))
          rw [letAt_vl (by omega)] at this; exact this
        have happ : B (sortTo p i) ++ B [letAt i] = B (sortTo p i ++ [letAt i]) := B_append _ _
        have hsz1 : (B [letAt i]).size = 1 := by rw [B_size]; rfl
        go_wp2_with fail
        go_round
        case rel => exact ⟨i + 1, by omega, by go_num, by rw [HF2.out]⟩
        case measure => simp [intOf]; omega
      · have hp' : p (letAt i) = false := by simpa using hp
        have he : (Go.bits .and .u32 (setI p) (setI (eqS (letAt i))) != 0) = false := by rw [bne_eq_false_iff_eq]; exact hpi.mpr hp'
        have HF2 : Hid (sortTo p (i + 1) = sortTo p i) := by
          show _ = _
          rw [HS.out, hp']; simp
        clear hb hpi hp hp'
        go_wp2_with fail
        go_round
        case rel => exact ⟨i + 1, by omega, by go_num, by rw [HF2.out]⟩
        case measure => simp [intOf]; omega
    · have HF2 : Hid (sortTo p i = sortL p) := by
        show _ = _
        rw [show i = 26 from by omega, sortTo_all]
      go_wp2_with fail
      go_ret
      exact ⟨by rw [HF2.out]; rfl, rfl⟩

end Go.Proofs.YtjgfgjhaghbehaaGreat
