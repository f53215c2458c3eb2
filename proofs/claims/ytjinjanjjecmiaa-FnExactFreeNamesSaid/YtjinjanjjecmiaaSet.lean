/- Sets of letters: as a test of bytes, as the program's bits, as the first letter that is not in. No program in sight. -/
import Derived.Test.YtjinjanjjecmiaaText
import Derived.Laws.BitsAllLaws
import Derived.Test.YtjinjanjjecmiaaWMore
namespace Go.Proofs.Ytjinjanjjecmiaa
open Go.RowKit Go.Proofs.YtjinjanjjecmiaaW.PrintWords Go.Proofs.YtjinjanjjecmiaaW.PrintMore

/-- The letter with the index i. -/
def letAt (i : Nat) : UInt8 := UInt8.ofNat (97 + i)
theorem letAt_vl {i : Nat} (h : i < 150) : vl (letAt i) = 97 + i := by
  unfold vl letAt; rw [UInt8.toNat_ofNat', Nat.mod_eq_of_lt (by omega)]; omega
theorem isLet_iff {c : UInt8} : isLet c = true ↔ ∃ i, i < 26 ∧ c = letAt i := by
  constructor
  · intro h
    simp [isLet] at h
    refine ⟨(vl c - 97).toNat, by omega, vl_inj.mp ?_⟩
    rw [letAt_vl (by omega)]; omega
  · rintro ⟨i, hi, rfl⟩
    simp [isLet, letAt_vl (show i < 150 by omega)]; omega

def sN (p : UInt8 → Bool) : Nat → Nat
  | 0 => 0
  | n + 1 => sN p n ||| (if p (letAt n) then 2 ^ n else 0)
theorem sN_lt (p : UInt8 → Bool) : ∀ n, sN p n < 2 ^ n
  | 0 => by simp [sN]
  | n + 1 => by
    have h := sN_lt p n
    unfold sN
    refine Nat.or_lt_two_pow (by rw [Nat.pow_succ]; omega) ?_
    split
    · rw [Nat.pow_succ]; have := Nat.two_pow_pos n; omega
    · exact Nat.two_pow_pos _
theorem sN_test (p : UInt8 → Bool) (i : Nat) : ∀ n, (sN p n).testBit i = (decide (i < n) && p (letAt i))
  | 0 => by simp [sN]
  | n + 1 => by
    unfold sN
    rw [Nat.testBit_or, sN_test p i n]
    by_cases h : i = n
    · subst h
      by_cases hp : p (letAt i) = true <;> simp [hp, Nat.testBit_two_pow_self]
    · have e : ((if p (letAt n) then 2 ^ n else 0 : Nat)).testBit i = false := by
        split
        · rw [Nat.testBit_two_pow]; simp; omega
        · simp
      rw [e, Bool.or_false]
      congr 1
      rw [decide_eq_decide]; omega
/-- The bits of a set of letters. -/
def setN (p : UInt8 → Bool) : Nat := sN p 26
def setI (p : UInt8 → Bool) : Int := (setN p : Nat)
theorem setN_lt (p : UInt8 → Bool) : setN p < 4294967296 := Nat.lt_of_lt_of_le (sN_lt p 26) (by decide)
theorem setN_test (p : UInt8 → Bool) (i : Nat) : (setN p).testBit i = (decide (i < 26) && p (letAt i)) := sN_test p i 26
theorem setI_range (p : UInt8 → Bool) : 0 ≤ setI p ∧ setI p < 4294967296 := by have := setN_lt p; unfold setI; omega
theorem setN_congr {p q : UInt8 → Bool} (h : ∀ c, isLet c = true → p c = q c) : setN p = setN q := by
  apply Nat.eq_of_testBit_eq
  intro i
  rw [setN_test, setN_test]
  by_cases hi : i < 26
  · rw [h _ (isLet_iff.mpr ⟨i, hi, rfl⟩)]
  · simp [hi]
theorem setI_congr {p q : UInt8 → Bool} (h : ∀ c, isLet c = true → p c = q c) : setI p = setI q := by unfold setI; rw [setN_congr h]
/-- Sets of names as the walks name them. -/
def orS (p q : UInt8 → Bool) : UInt8 → Bool := fun c => p c || q c
def andS (p q : UInt8 → Bool) : UInt8 → Bool := fun c => p c && q c
def minusS (p q : UInt8 → Bool) : UInt8 → Bool := fun c => p c && !q c
def eqS (d : UInt8) : UInt8 → Bool := fun c => c == d
def inS (l : List UInt8) : UInt8 → Bool := fun c => l.contains c
def noS : UInt8 → Bool := fun _ => false
theorem eqS_self (c : UInt8) : eqS c c = true := by simp [eqS]
theorem set_or (p q : UInt8 → Bool) : Go.bits .or .u32 (setI p) (setI q) = setI (orS p q) := by
  unfold setI
  rw [u32_or_nat _ _ (setN_lt p) (setN_lt q)]
  congr 1
  apply Nat.eq_of_testBit_eq
  intro i
  rw [Nat.testBit_or, setN_test, setN_test, setN_test]
  cases decide (i < 26) <;> simp [orS]
theorem set_and (p q : UInt8 → Bool) : Go.bits .and .u32 (setI p) (setI q) = setI (andS p q) := by
  unfold setI
  rw [u32_and_nat _ _ (setN_lt p) (setN_lt q)]
  congr 1
  apply Nat.eq_of_testBit_eq
  intro i
  rw [Nat.testBit_and, setN_test, setN_test, setN_test]
  cases decide (i < 26) <;> simp [andS]
theorem set_andNot (p q : UInt8 → Bool) : Go.bits .andNot .u32 (setI p) (setI q) = setI (minusS p q) := by
  unfold setI
  rw [u32_andNot_nat _ _ (setN_lt p) (setN_lt q)]
  congr 1
  apply Nat.eq_of_testBit_eq
  intro i
  have h := setN_lt q
  rw [Nat.testBit_and, show 4294967295 - setN q = 2 ^ 32 - (setN q + 1) from by omega, Nat.testBit_two_pow_sub_succ (by omega), setN_test, setN_test, setN_test]
  by_cases hi : i < 26
  · simp [hi, show i < 32 by omega, minusS]
  · simp [hi]
theorem setI_zero (p : UInt8 → Bool) : setI p = 0 ↔ ∀ c, isLet c = true → p c = false := by
  constructor
  · intro h c hc
    obtain ⟨i, hi, rfl⟩ := isLet_iff.mp hc
    have h0 : setN p = 0 := by unfold setI at h; omega
    have := setN_test p i
    rw [h0] at this
    simpa [hi] using this.symm
  · intro h
    unfold setI
    have : setN p = 0 := by
      apply Nat.eq_of_testBit_eq
      intro i
      rw [setN_test]
      by_cases hi : i < 26
      · rw [h _ (isLet_iff.mpr ⟨i, hi, rfl⟩)]; simp
      · simp [hi]
    rw [this]; rfl
theorem setI_empty : setI noS = 0 := (setI_zero _).mpr fun _ _ => rfl
/-- The bit of one letter. -/
theorem set_bit {c : UInt8} (h : isLet c = true) : shl .u32 1 ((vl c - 97) % 256) = setI (eqS c) := by
  obtain ⟨i, hi, rfl⟩ := isLet_iff.mp h
  rw [letAt_vl (by omega)]
  have e : setN (eqS (letAt i)) = 2 ^ i := by
    apply Nat.eq_of_testBit_eq
    intro j
    rw [setN_test, Nat.testBit_two_pow]
    by_cases hj : j < 26
    · by_cases hij : i = j
      · subst hij; simp [hj, eqS]
      · have : ¬ letAt j = letAt i := by
          intro e
          have := congrArg vl e
          rw [letAt_vl (by omega), letAt_vl (by omega)] at this
          omega
        simp [hij, this, eqS]
    · simp [hj]; omega
  unfold setI
  rw [e]
  unfold shl
  have h1 : ((97 + (i : Int) - 97) % 256).toNat = i := by omega
  rw [h1, show min i IntKind.u32.bits = i from Nat.min_eq_left (by show i ≤ 32; omega), IntKind.wrap_u32]
  have : 2 ^ i < 2 ^ 32 := Nat.pow_lt_pow_right (by omega) (by omega)
  have e2 : ((2 : Int) ^ i) = ((2 ^ i : Nat) : Int) := by simp
  rw [e2]; omega
/-- Whether a letter is in: the program's test. -/
theorem set_test (p : UInt8 → Bool) {c : UInt8} (h : isLet c = true) : Go.bits .and .u32 (setI p) (setI (eqS c)) = 0 ↔ p c = false := by
  rw [set_and, setI_zero]
  constructor
  · intro k; simpa [andS, eqS] using k c h
  · intro k d _
    by_cases e : d = c
    · subst e; simp [k, andS]
    · simp [e, andS, eqS]

/-- The letters from the one with the index i on. -/
def letsFrom (i : Nat) : List UInt8 := (List.range (26 - i)).map fun j => letAt (i + j)
theorem letsFrom_step {i : Nat} (h : i < 26) : letsFrom i = letAt i :: letsFrom (i + 1) := by
  unfold letsFrom
  rw [show 26 - i = (26 - (i + 1)) + 1 from by omega, List.range_succ_eq_map, List.map_cons, List.map_map]
  simp only [Nat.add_zero]
  congr 1
  apply List.map_congr_left
  intro j _
  show letAt (i + (j + 1)) = letAt (i + 1 + j)
  congr 1; omega
theorem letsFrom_end {i : Nat} (h : 26 ≤ i) : letsFrom i = [] := by unfold letsFrom; rw [show 26 - i = 0 from by omega]; rfl
theorem mem_lets {c : UInt8} : c ∈ letsFrom 0 ↔ isLet c = true := by
  unfold letsFrom
  rw [isLet_iff]
  simp only [Nat.zero_add, List.mem_map, List.mem_range, Nat.sub_zero]
  exact ⟨fun ⟨i, h, e⟩ => ⟨i, h, e.symm⟩, fun ⟨i, h, e⟩ => ⟨i, h, e.symm⟩⟩
/-- The first letter that is not in, if there is one. -/
def freshOf (p : UInt8 → Bool) : Option UInt8 := (letsFrom 0).find? fun c => !p c
theorem freshOf_let {p : UInt8 → Bool} {c : UInt8} (h : freshOf p = some c) : isLet c = true ∧ p c = false := by
  have h1 := List.mem_of_find?_eq_some h
  have h2 := List.find?_some h
  exact ⟨mem_lets.mp h1, by simpa using h2⟩
theorem find_congr {α : Type} {p q : α → Bool} {l : List α} (h : ∀ c, c ∈ l → p c = q c) : l.find? p = l.find? q := by
  induction l with
  | nil => rfl
  | cons a l ih =>
    rw [List.find?_cons, List.find?_cons, h a (by simp), ih fun c hc => h c (by simp [hc])]
theorem freshOf_congr {p q : UInt8 → Bool} (h : ∀ c, isLet c = true → p c = q c) : freshOf p = freshOf q :=
  find_congr fun c hc => by rw [h c (mem_lets.mp hc)]

/-- The signs beyond the letters, from the one with the index i on. -/
def beyFrom (i : Nat) : List UInt8 := (List.range (63 - i)).map fun j => UInt8.ofNat (128 + (i + j))
/-- The reference's fresh name: a letter, or a sign beyond. -/
def freshB (p : UInt8 → Bool) : UInt8 := match freshOf p with
  | some c => c
  | none => ((beyFrom 0).find? fun c => !p c).getD 191
theorem beyFrom_step {i : Nat} (h : i < 63) : beyFrom i = UInt8.ofNat (128 + i) :: beyFrom (i + 1) := by
  unfold beyFrom
  rw [show 63 - i = (63 - (i + 1)) + 1 from by omega, List.range_succ_eq_map, List.map_cons, List.map_map]
  simp only [Nat.add_zero]
  congr 1
  apply List.map_congr_left
  intro j _
  show UInt8.ofNat (128 + (i + (j + 1))) = UInt8.ofNat (128 + (i + 1 + j))
  congr 1; omega
theorem beyFrom_end : beyFrom 63 = [] := rfl
theorem bey_vl {i : Nat} (h : i < 64) : vl (UInt8.ofNat (128 + i)) = 128 + i := by
  unfold vl; rw [UInt8.toNat_ofNat', Nat.mod_eq_of_lt (by omega)]; omega

end Go.Proofs.Ytjinjanjjecmiaa
