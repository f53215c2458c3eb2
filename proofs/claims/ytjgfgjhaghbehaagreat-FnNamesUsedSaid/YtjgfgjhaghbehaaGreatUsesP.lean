/- How often a name is used in a term. No program in sight. -/
import Derived.Test.YtjgfgjhaghbehaaGreatBase
namespace Go.Proofs.YtjgfgjhaghbehaaGreat
open Go.RowKit Go.Proofs.YtjgfgjhaghbehaaGreatW.PrintWords

structure Us where
  (s r h m g : Nat)
def Us.zero : Us := ⟨0, 0, 0, 0, 0⟩
def Us.inc (u : Us) (i : Nat) (rep : Bool) : Us :=
  ⟨u.s + (if i = 0 then 1 else 0), u.r + (if i = 1 then 1 else 0), u.h + (if i = 2 then 1 else 0), u.m + (if i = 3 then 1 else 0), u.g + (if rep then 1 else 0)⟩
def Us.get (u : Us) : Nat → Nat | 0 => u.s | 1 => u.r | 2 => u.h | 3 => u.m | _ => u.g
def Us.bd (u : Us) (b : Nat) : Prop := u.s ≤ b ∧ u.r ≤ b ∧ u.h ≤ b ∧ u.m ≤ b ∧ u.g ≤ b
theorem Us.bd.inc {u : Us} {b : Nat} (h : u.bd b) (i : Nat) (rep : Bool) : (u.inc i rep).bd (b + 1) := by
  obtain ⟨h1, h2, h3, h4, h5⟩ := h
  simp only [Us.bd, Us.inc]
  refine ⟨?_, ?_, ?_, ?_, ?_⟩ <;> split <;> omega
theorem Us.bd.le {u : Us} {b c : Nat} (h : u.bd b) (hc : b ≤ c) : u.bd c := by
  obtain ⟨h1, h2, h3, h4, h5⟩ := h
  exact ⟨by omega, by omega, by omega, by omega, by omega⟩
def bump (a : UInt8) (rep : Bool) (k x y : UInt8) (u : Us) : Us :=
  if k = 33 then (if y = a then (if x = a then u.inc 0 rep else u).inc 2 rep else (if x = a then u.inc 0 rep else u))
  else if k = 63 then (if x = a then u.inc 1 rep else u)
  else if k = 61 then (if x = a ∨ y = a then u.inc 3 rep else u)
  else u
def stops (a k y : UInt8) : Bool := decide ((k = 63 ∨ k = 35) ∧ y = a)
def usF (a : UInt8) : Bool → Tm → Us → Us
  | _, .leaf _ _ _, u => u
  | rep, .un k x y t, u => if stops a k y = true then bump a (rep || k == 42) k x y u else usF a (rep || k == 42) t (bump a (rep || k == 42) k x y u)
  | rep, .bin _ _ _ t1 t2, u => usF a rep t2 (usF a rep t1 u)
def usK (a : UInt8) (rep : Bool) (l : List Tm) (u : Us) : Us := l.foldl (fun u t => usF a rep t u) u
theorem usK_take_succ (a : UInt8) (rep : Bool) (l : List Tm) (u : Us) (i : Nat) (h : i < l.length) : usK a rep (l.take (i + 1)) u = usF a rep l[i] (usK a rep (l.take i) u) := by
  unfold usK; rw [List.take_succ_eq_append_getElem h, List.foldl_append]; rfl
theorem bump_other {a : UInt8} {rep : Bool} {k x y : UInt8} {u : Us} (h1 : k ≠ 33) (h2 : k ≠ 63) (h3 : k ≠ 61) : bump a rep k x y u = u := by
  simp [bump, h1, h2, h3]
theorem us_kids (a : UInt8) (rep : Bool) {t : Tm} (h : Wf isLet t) (u : Us) :
    usF a rep t u = if stops a t.kind t.nb = true then bump a (rep || t.kind == 42) t.kind t.na t.nb u else usK a (rep || t.kind == 42) t.kids (bump a (rep || t.kind == 42) t.kind t.na t.nb u) := by
  cases t with
  | leaf k x y =>
    obtain ⟨rfl, _⟩ := h
    have hs : stops a (Tm.leaf 48 x y).kind (Tm.leaf 48 x y).nb = false := by simp [stops, Tm.kind]
    rw [hs, if_neg (by decide), bump_other (by simp [Tm.kind]) (by simp [Tm.kind]) (by simp [Tm.kind])]; rfl
  | un k x y t => rfl
  | bin k x y t1 t2 =>
    have hs : stops a (Tm.bin k x y t1 t2).kind (Tm.bin k x y t1 t2).nb = false := by rcases h.1 with rfl | rfl <;> simp [stops, Tm.kind]
    have hk : (rep || (Tm.bin k x y t1 t2).kind == 42) = rep := by rcases h.1 with rfl | rfl <;> simp [Tm.kind]
    have h1 : (Tm.bin k x y t1 t2).kind ≠ 33 := by rcases h.1 with rfl | rfl <;> simp [Tm.kind]
    have h2 : (Tm.bin k x y t1 t2).kind ≠ 63 := by rcases h.1 with rfl | rfl <;> simp [Tm.kind]
    have h3 : (Tm.bin k x y t1 t2).kind ≠ 61 := by rcases h.1 with rfl | rfl <;> simp [Tm.kind]
    rw [hs, if_neg (by decide), bump_other h1 h2 h3, hk]
    rfl
theorem bd_bump {u : Us} {b : Nat} (h : u.bd b) (a : UInt8) (rep : Bool) (k x y : UInt8) : (bump a rep k x y u).bd (b + 2) := by
  have h0 := h.le (c := b + 2) (by omega)
  have h1 := fun i => (h.inc i rep).le (c := b + 2) (by omega)
  have h2 := fun i j => ((h.inc i rep).inc j rep)
  unfold bump
  split
  · split
    · split
      · exact h2 0 2
      · exact h1 2
    · split
      · exact h1 0
      · exact h0
  split
  · split
    · exact h1 1
    · exact h0
  split
  · split
    · exact h1 3
    · exact h0
  · exact h0
theorem bd_us (a : UInt8) (t : Tm) : ∀ (rep : Bool) (u : Us) (b : Nat), u.bd b → (usF a rep t u).bd (b + 2 * t.size) := by
  induction t with
  | leaf k x y => intro rep u b h; exact h.le (by omega)
  | un k x y t ih =>
    intro rep u b h
    simp only [usF, Tm.size]
    have hb := bd_bump h a (rep || k == 42) k x y
    split
    · exact hb.le (by omega)
    · exact (ih _ _ _ hb).le (by omega)
  | bin k x y t1 t2 ih1 ih2 =>
    intro rep u b h
    simp only [usF, Tm.size]
    exact (ih2 _ _ _ (ih1 _ _ _ h)).le (by omega)
theorem sizes_take_le' (l : List Tm) (i : Nat) : ((l.take i).map Tm.size).sum ≤ (l.map Tm.size).sum := by
  have : (l.map Tm.size).sum = ((l.take i).map Tm.size).sum + ((l.drop i).map Tm.size).sum := by rw [← List.sum_append, ← List.map_append, List.take_append_drop]
  omega
theorem bd_usK (a : UInt8) (rep : Bool) (l : List Tm) : ∀ (u : Us) (b : Nat), u.bd b → (usK a rep l u).bd (b + 2 * (l.map Tm.size).sum) := by
  induction l with
  | nil => intro u b h; exact h.le (by omega)
  | cons t l ih =>
    intro u b h
    have := ih _ _ (bd_us a t rep u b h)
    simp only [List.map_cons, List.sum_cons]
    exact this.le (by omega)

def own4 (a k x y : UInt8) : List Nat :=
  if k = 33 then [if x = a then 1 else 0, 0, if y = a then 1 else 0, 0]
  else if k = 63 then [0, if x = a then 1 else 0, 0, 0]
  else if k = 61 then [0, 0, 0, if x = a ∨ y = a then 1 else 0]
  else [0, 0, 0, 0]
def Us.four (u : Us) : List Nat := [u.s, u.r, u.h, u.m]
def add4 (l m : List Nat) : List Nat := List.zipWith (· + ·) l m
def us4 (a : UInt8) : Tm → List Nat
  | .leaf _ _ _ => [0, 0, 0, 0]
  | .un k x y t => if stops a k y = true then own4 a k x y else add4 (own4 a k x y) (us4 a t)
  | .bin _ _ _ t1 t2 => add4 (us4 a t1) (us4 a t2)
theorem own4_len (a k x y : UInt8) : (own4 a k x y).length = 4 := by unfold own4; repeat' split
                                                                     all_goals rfl
theorem us4_len (a : UInt8) (t : Tm) : (us4 a t).length = 4 := by
  induction t with
  | leaf => rfl
  | un k x y t ih => simp only [us4]; split
                     · exact own4_len _ _ _ _
                     · simp [add4, own4_len, ih]
  | bin k x y t1 t2 ih1 ih2 => simp [us4, add4, ih1, ih2]
theorem bump_four (a : UInt8) (rep : Bool) (k x y : UInt8) (u : Us) : (bump a rep k x y u).four = add4 u.four (own4 a k x y) := by
  unfold bump own4
  split
  · by_cases h1 : x = a <;> by_cases h2 : y = a <;> simp [h1, h2, Us.four, Us.inc, add4]
  split
  · by_cases h1 : x = a <;> simp [h1, Us.four, Us.inc, add4]
  split
  · by_cases h1 : x = a ∨ y = a <;> simp [h1, Us.four, Us.inc, add4]
  · simp [Us.four, add4]
theorem add4_assoc : ∀ (l m n : List Nat), add4 (add4 l m) n = add4 l (add4 m n)
  | [], _, _ => by simp [add4]
  | _ :: _, [], _ => by simp [add4]
  | _ :: _, _ :: _, [] => by simp [add4]
  | x :: l, y :: m, z :: n => by
    have := add4_assoc l m n
    simp only [add4, List.zipWith_cons_cons] at this ⊢
    rw [this, Nat.add_assoc]
theorem us_four (a : UInt8) (t : Tm) : ∀ (rep : Bool) (u : Us), (usF a rep t u).four = add4 u.four (us4 a t) := by
  induction t with
  | leaf => intro rep u; simp [usF, us4, Us.four, add4]
  | un k x y t ih =>
    intro rep u
    simp only [usF, us4]
    split
    · exact bump_four _ _ _ _ _ _
    · rw [ih, bump_four, add4_assoc]
  | bin k x y t1 t2 ih1 ih2 =>
    intro rep u
    simp only [usF, us4]
    rw [ih2, ih1, add4_assoc]

end Go.Proofs.YtjgfgjhaghbehaaGreat
