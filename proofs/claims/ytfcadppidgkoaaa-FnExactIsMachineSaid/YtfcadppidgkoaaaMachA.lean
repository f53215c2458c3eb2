/- Several texts in one.
   What threads offer, and whether a machine is one. No program in sight.
   The program's ways: what a thread offers, in a row of its own.
   Whether ways meet: fits, slices.ContainsFunc over ways with each closure, canMeet.
   The program's IsMachine.
   The machine that a law is given, opened. -/
import Derived.Test.YtfcadppidgkoaaaSimpleT
import Derived.Deep.AppendLies
import Derived.Deep.RegionHeld3
import Derived.Lib.AppendZeros
import Derived.Deep.LoopGhost
import Derived.Test.YtfcadppidgkoaaaIdx
import Derived.Lib.IndexLaws
import Derived.SliceStrings
import Derived.Lib.SmallJoins
import Derived.Test.YtfcadppidgkoaaaWWords
namespace Go.Proofs.Ytfcadppidgkoaaa
open Go.RowKit Go.Proofs.YtfcadppidgkoaaaW.PrintWords
set_option linter.unusedVariables false
set_option linter.unusedSimpArgs false

def Tm.ways : Tm → List (UInt8 × UInt8 × UInt8)
  | .leaf _ _ _ => []
  | .un k a b t => if k = 126 ∨ k = 33 ∨ k = 63 then [(k, a, b)] else if k = 42 then t.ways else []
  | .bin k _ _ t u => if k = 43 then t.ways ++ u.ways else []
def fitB (x y : UInt8 × UInt8 × UInt8) : Bool := (x.2.1 == y.2.1) && ((x.1 == 33 && y.1 == 63) || (x.1 == 63 && y.1 == 33))
def meetB (t u : Tm) : Bool := t.ways.any fun x => u.ways.any (fitB x)
def tauB (t : Tm) : Bool := t.ways.any fun x => x.1 == 126
def waitB (t : Tm) : Bool := t.kind == 33 || (t.kind == 63 || (t.kind == 42 || ((t.kind == 61 && t.na != t.nb) || (t.kind == 43 && !tauB t))))
def waitsB : List Tm → List (List UInt8) → Bool
  | _, [] => true
  | prev, l :: ls => (simpleOk l && (waitB (parsed l).1 && !(prev.any fun u => meetB (parsed l).1 u))) && waitsB (prev ++ [(parsed l).1]) ls
def ownB : List UInt8 → List UInt8 → Bool
  | _, [] => true
  | pre, c :: l => (isLet c && !pre.contains c) && ownB (pre ++ [c]) l
def machB (own : List UInt8) (ready waiting : List (List UInt8)) : Bool :=
  (ownB [] own && decide (ready.length + waiting.length ≤ 40)) && (ready.all simpleOk && waitsB [] waiting)

theorem ways_len (t : Tm) : t.ways.length ≤ t.size := by
  induction t with
  | leaf => simp [Tm.ways]
  | un k a b t ih =>
    simp only [Tm.ways, Tm.size]
    split
    · simp
    · split
      · omega
      · simp
  | bin k a b t u ih1 ih2 =>
    simp only [Tm.ways, Tm.size]
    split
    · rw [List.length_append]; omega
    · simp
theorem nodup_let : ∀ (n : Nat) (l : List UInt8), l.Nodup → (∀ c, c ∈ l → 97 ≤ c.toNat ∧ c.toNat < 97 + n) → l.length ≤ n := by
  intro n
  induction n with
  | zero => intro l _ h; cases l with
    | nil => exact Nat.le_refl _
    | cons c l => have := h c (by simp); omega
  | succ n ih =>
    intro l hd h
    have h1 := ih (l.filter fun c => c.toNat != 97 + n) (hd.filter _) fun c hc => by
      obtain ⟨q1, q2⟩ := List.mem_filter.mp hc
      have := h c q1
      have q3 : c.toNat ≠ 97 + n := by simpa using q2
      omega
    have h2 : (l.filter fun c => c.toNat == 97 + n).length ≤ 1 := by
      have hd2 := hd.filter fun c => c.toNat == 97 + n
      obtain ⟨f, hf⟩ : ∃ f, f = l.filter fun c => c.toNat == 97 + n := ⟨_, rfl⟩
      have hm : ∀ c, c ∈ f → c.toNat = 97 + n := fun c hc => by rw [hf] at hc; simpa using (List.mem_filter.mp hc).2
      rw [← hf] at hd2 ⊢
      match f, hd2, hm with
      | [], _, _ => exact Nat.zero_le _
      | [a], _, _ => exact Nat.le_refl _
      | a :: b :: r, hd2, hm =>
        exfalso
        have e1 := hm a (by simp)
        have e2 := hm b (by simp)
        have e3 : a = b := UInt8.toNat_inj.mp (e1.trans e2.symm)
        subst e3
        simp at hd2
    have h3 := List.length_eq_countP_add_countP (l := l) (fun c : UInt8 => c.toNat == 97 + n)
    rw [List.countP_eq_length_filter, List.countP_eq_length_filter] at h3
    have h4 : (l.filter fun c => decide (¬ (c.toNat == 97 + n) = true)) = l.filter fun c => c.toNat != 97 + n := List.filter_congr fun c _ => by cases h : (c.toNat == 97 + n) <;> simp [bne, h]
    rw [h4] at h3
    omega
theorem ownB_nodup : ∀ (l pre : List UInt8), ownB pre l = true → pre.Nodup → (∀ c, c ∈ pre → isLet c = true) → (pre ++ l).Nodup ∧ ∀ c, c ∈ pre ++ l → isLet c = true := by
  intro l
  induction l with
  | nil => intro pre _ h1 h2; simpa using ⟨h1, h2⟩
  | cons c l ih =>
    intro pre h h1 h2
    simp only [ownB, Bool.and_eq_true, Bool.not_eq_true'] at h
    obtain ⟨⟨q1, q2⟩, q3⟩ := h
    have hc : c ∉ pre := by simpa using q2
    have := ih (pre ++ [c]) q3 (List.nodup_append.mpr ⟨h1, by simp, fun a ha b hb => by simp at hb; subst hb; exact fun e => hc (e ▸ ha)⟩) fun x hx => by
      rcases List.mem_append.mp hx with h | h
      · exact h2 x h
      · simp at h; subst h; exact q1
    simpa using this
theorem ownB_len {l : List UInt8} (h : ownB [] l = true) : l.length ≤ 26 := by
  obtain ⟨h1, h2⟩ := ownB_nodup l [] h (by simp) (by simp)
  rw [List.nil_append] at h1 h2
  refine nodup_let 26 l h1 fun c hc => ?_
  have := h2 c hc
  simp only [isLet, Bool.and_eq_true, decide_eq_true_eq] at this
  unfold vl at this
  omega
end Go.Proofs.Ytfcadppidgkoaaa
namespace Go.Proofs.Ytfcadppidgkoaaa
open Go.RowKit Go.Proofs.YtfcadppidgkoaaaW.PrintWords Go.Proofs.YtfcadppidgkoaaaW.PrintMore
set_option linter.unusedVariables false
set_option linter.unusedSimpArgs false

def wc (x : (UInt8 × UInt8 × UInt8) × Option Addr) : List Value := [.int .u8 (vl x.1.1), .int .u8 (vl x.1.2.1), .int .u8 (vl x.1.2.2), .pointer x.2]
theorem wc_len (ps : List ((UInt8 × UInt8 × UInt8) × Option Addr)) : (ps.flatMap wc).length = ps.length * 4 := by
  induction ps with
  | nil => rfl
  | cons x ps ih => rw [List.flatMap_cons, List.length_append, ih, List.length_cons]; simp [wc]; omega
theorem wc_one (ps : List ((UInt8 × UInt8 × UInt8) × Option Addr)) : ∀ u ∈ ps.flatMap wc, u.oneCell' = true := by
  intro u hu
  obtain ⟨x, _, hx⟩ := List.mem_flatMap.mp hu
  simp only [wc, List.mem_cons, List.not_mem_nil, or_false] at hx
  rcases hx with rfl | rfl | rfl | rfl <;> rfl
def WaysAt (w : World) (N : Nat) (v : Value) (L : List (UInt8 × UInt8 × UInt8)) : Prop :=
  ∃ ps : List ((UInt8 × UInt8 × UInt8) × Option Addr), ps.map (·.1) = L ∧ w.ownsRow N 82 4 v ps.length (ps.flatMap wc)
theorem WaysAt.keep {w w' : World} {N : Nat} {v : Value} {L : List (UInt8 × UInt8 × UInt8)} (h : WaysAt w N v L) (hk : ∀ i, N ≤ i → i < w.heap.size → w'.heap[i]? = w.heap[i]?) : WaysAt w' N v L := by
  obtain ⟨ps, h1, h2, h3⟩ := h
  refine ⟨ps, h1, h2, ?_⟩
  rcases h3 with h3 | ⟨g, cap, cur, q1, q2, q3, q4⟩
  · exact .inl h3
  · exact .inr ⟨g, cap, cur, q1, q2, (hk g q2 (blk_lt q3)).trans q3, q4⟩
theorem WaysAt.mono {w : World} {N N' : Nat} {v : Value} {L : List (UInt8 × UInt8 × UInt8)} (hN : N' ≤ N) (h : WaysAt w N v L) : WaysAt w N' v L := by
  obtain ⟨ps, h1, h2, h3⟩ := h
  refine ⟨ps, h1, h2, ?_⟩
  rcases h3 with h3 | ⟨g, cap, cur, q1, q2, q3⟩
  · exact .inl h3
  · exact .inr ⟨g, cap, cur, q1, by omega, q3⟩
theorem WaysAt.nil (w : World) (N : Nat) : WaysAt w N (.slice none 0 0) [] := ⟨[], rfl, World.ownsRow_nil w N _ 4⟩
theorem WaysAt.at {w : World} {N : Nat} {v : Value} {L : List (UInt8 × UInt8 × UInt8)} (h : WaysAt w N v L) :
    ∃ o cap, v = .slice o L.length cap ∧ L.length ≤ cap ∧ ∀ i, (hi : i < L.length) → ∃ g p, o = some ⟨g, 0, none⟩ ∧ w.cell? ⟨g, i * 4, none⟩ = some (.int .u8 (vl L[i].1)) ∧ w.cell? ⟨g, i * 4 + 1, none⟩ = some (.int .u8 (vl L[i].2.1)) ∧ w.cell? ⟨g, i * 4 + 2, none⟩ = some (.int .u8 (vl L[i].2.2)) ∧ w.cell? ⟨g, i * 4 + 3, none⟩ = some (.pointer p) := by
  obtain ⟨ps, rfl, h2, h3⟩ := h
  rcases h3 with ⟨rfl, h4⟩ | ⟨g, cap, cur, rfl, q2, q3, q4, q5, q6, q7⟩
  · refine ⟨none, 0, by rw [List.length_map, h4], by rw [List.length_map, h4]; exact Nat.le_refl _, fun i hi => ?_⟩
    rw [List.length_map, h4] at hi; omega
  · refine ⟨_, cap, by rw [List.length_map], by rw [List.length_map]; exact q4, fun i hi => ?_⟩
    rw [List.length_map] at hi
    have hcell : ∀ j, j < ps.length * 4 → w.cell? ⟨g, j, none⟩ = (ps.flatMap wc)[j]? := fun j hj => by
      rw [blk_cell q3 j, ← q7, List.getElem?_take_of_lt hj, Array.getElem?_toList]
    have hget : ∀ (qs : List ((UInt8 × UInt8 × UInt8) × Option Addr)) (i j : Nat) (hi : i < qs.length), j < 4 → (qs.flatMap wc)[i * 4 + j]? = (wc qs[i])[j]? := by
      intro qs
      induction qs with
      | nil => intro i j hi; exact absurd hi (Nat.not_lt_zero _)
      | cons x qs ih =>
        intro i j hi hj
        cases i with
        | zero => rw [List.flatMap_cons, List.getElem?_append_left (by simp [wc]; omega)]; simp
        | succ i =>
          rw [List.flatMap_cons, List.getElem?_append_right (by simp [wc]; omega)]
          have : (i + 1) * 4 + j - (wc x).length = i * 4 + j := by simp [wc]; omega
          rw [this, ih i j (by simpa using hi) hj]; simp
    refine ⟨g, ps[i].2, rfl, ?_, ?_, ?_, ?_⟩
    · have := hget ps i 0 hi (by omega)
      rw [Nat.add_zero] at this
      rw [hcell _ (by omega), this]; simp [wc]
    · rw [hcell _ (by omega), hget ps i 1 hi (by omega)]; simp [wc]
    · rw [hcell _ (by omega), hget ps i 2 hi (by omega)]; simp [wc]
    · rw [hcell _ (by omega), hget ps i 3 hi (by omega)]; simp [wc]
theorem WaysAt.one (w : World) (x : UInt8 × UInt8 × UInt8) (p : Option Addr) : WaysAt (w.alloc (.cells #[.int .u8 (vl x.1), .int .u8 (vl x.2.1), .int .u8 (vl x.2.2), .pointer p] 82)) w.heap.size (.slice (some ⟨w.heap.size, 0, none⟩) 1 1) [x] :=
  ⟨[(x, p)], rfl, rfl, .inr ⟨w.heap.size, 1, _, rfl, Nat.le_refl _, heap_alloc_new w _, Nat.le_refl _, by unfold maxLen; omega, rfl, rfl⟩⟩

section
variable {P : Program}
theorem run_append_none {w : World} {t ty e : TypeId} {i : TypeInfo} (ht : P.underlying t = some (.slice e)) (hi : P.info? e = some i) (b : Option Addr) (n c : Nat) (h : n ≤ c) :
    (Builtin.append_ #[t, t] ty #[.slice b n c, .slice none 0 0]).run P w = .ok (.slice b n c) w := by
  cases b <;> simp [Builtin.append_, run_underlying ht, sizeOf, typeInfo, hi, Builtin.lenOf, Builtin.firstCells, storeCells, h]
end
theorem Try.infoWay : (Try.prog.info? 82).map (fun i => (i.zero.map (fun z => z.cells.size), i.size, i.bytes)) = some (some 4, 4, 16) := by kernel_rfl
theorem run_append_ways {w : World} {N M : Nat} {ty : TypeId} {v1 v2 : Value} {L1 L2 : List (UInt8 × UInt8 × UInt8)} (h1 : WaysAt w N v1 L1) (h2 : WaysAt w M v2 L2) (hN : N ≤ w.heap.size) (hl : L1.length + L2.length ≤ 1000) :
    ∃ v' w', (Builtin.append_ #[80, 80] ty #[v1, v2]).run Try.prog w = .ok v' w' ∧ WaysAt w' N v' (L1 ++ L2) ∧ w.grownBy w' v1.ownBlock := by
  have hi0 := Try.infoWay
  cases hi : Try.prog.info? 82 with
  | none => rw [hi] at hi0; cases hi0
  | some i =>
    rw [hi] at hi0
    simp only [Option.map_some, Option.some.injEq, Prod.mk.injEq, Option.map_eq_some_iff] at hi0
    obtain ⟨⟨z, hz, hz2⟩, hs, hb⟩ := hi0
    have hT : Try.prog.underlying 80 = some (.slice 82) := Try.underlying80
    obtain ⟨ps1, rfl, o1⟩ := h1
    obtain ⟨ps2, rfl, o2⟩ := h2
    rw [List.length_map, List.length_map] at hl
    rcases o2.2 with ⟨rfl, h0⟩ | ⟨g, cap, cur, rfl, q2, q3, q4, q5, q6, q7⟩
    · have hp : ps2 = [] := List.length_eq_zero_iff.mp h0
      subst hp
      rcases o1.2 with ⟨rfl, h4⟩ | ⟨g, cap, cur, rfl, r2, r3, r4, r5⟩
      · exact ⟨_, _, run_append_none hT hi none 0 0 (Nat.le_refl _), ⟨ps1, by simp, o1⟩, ⟨rfl, rfl, rfl, Nat.le_refl _, fun _ _ _ => rfl⟩⟩
      · exact ⟨_, _, run_append_none hT hi _ _ _ r4, ⟨ps1, by simp, o1⟩, ⟨rfl, rfl, rfl, Nat.le_refl _, fun _ _ _ => rfl⟩⟩
    · have hcell : ∀ j u, (ps2.flatMap wc)[j]? = some u → w.cell? ((⟨g, 0, none⟩ : Addr).add j) = some u := fun j u hu => o2.cells (g := g) rfl j u hu
      obtain ⟨v', w', e1, e2, e3, _, _⟩ := run_append_own_at (P := Try.prog) w N 80 ty 82 i z 4 16 hT hi hz hs hb hz2 (by omega) v1 ps1.length _ o1 ⟨g, 0, none⟩ ps2.length cap _ (wc_len ps2) hcell (wc_one ps2) (by unfold maxLen; omega) (by omega) hN
      exact ⟨v', w', e1, ⟨ps1 ++ ps2, by simp, by rw [List.length_append, List.flatMap_append]; exact e2⟩, e3⟩
theorem step_append_ways {w : World} {ops : Array Oper} {o : Oper} {a : Act} {K : Act → World → Prop} {Q : Exit → Act → World → Prop} {E : Prop} (hgd : o.guard = none) (s x : Operand)
    (ho : o.op = .call { callee := .builtin .append, args := #[s, x], argTypes := #[80, 80] }) {N M : Nat} {v1 v2 : Value} {L1 L2 : List (UInt8 × UInt8 × UInt8)} (h1 : WaysAt w N v1 L1) (h2 : WaysAt w M v2 L2) (hN : N ≤ w.heap.size) (hl : L1.length + L2.length ≤ 1000) (hs : a.eval s = v1) (hx : a.eval x = v2)
    (h : ∀ v' w', WaysAt w' N v' (L1 ++ L2) → w.grownBy w' v1.ownBlock → K (a.put o.dst v') w') :
    if Region.wanted o (yielded ops a.tmps) = true then Oper.wp Try.prog o a w K Q else E := by
  have hw : Region.wanted o (yielded ops a.tmps) = true := by simp [Region.wanted, hgd]
  rw [if_pos hw]
  obtain ⟨v', w', e1, e2, e3⟩ := run_append_ways (ty := o.type) h1 h2 hN hl
  exact Lib.wp_append_run w s x _ _ ho v1 v2 hs hx v' w' e1 (h v' w' e2 e3)

theorem grown_below {W1 w w' : World} {N : Nat} {v : Value} {L : List (UInt8 × UInt8 × UInt8)} (h : WaysAt W1 N v L) (hN : N ≤ w.heap.size) (hg : w.grownBy w' v.ownBlock) : Below N w w' := by
  refine ⟨hg.os, hg.tape, hg.output, hg.size, fun i hi => hg.block i (by omega) fun e => ?_⟩
  obtain ⟨ps, _, h2⟩ := h
  rcases h2.2 with ⟨rfl, _⟩ | ⟨g, cap, cur, rfl, q2, _⟩
  · simp [Value.ownBlock] at e
  · have : i = g := by simpa [Value.ownBlock] using e
    omega
def WaysPost (w : World) (t : Tm) (e : Ending) (w' : World) : Prop := ∃ v, e = .returned v ∧ WaysAt w' w.heap.size v t.ways ∧ Below w.heap.size w w'
def WaysUpto (n : Nat) : Prop := ∀ (t : Tm) (w : World) (N b : Nat), t.size ≤ n → Wf isLet t → Lies w N t b → Calls Try.prog 81 #[.pointer (some ⟨b, 0, none⟩)] w (WaysPost w t)

theorem ways_none (k : UInt8) (w : World) (b : Nat) (c0 : w.cell? ⟨b, 0, none⟩ = some (.int .u8 (vl k))) (q1 : (vl k == 126) = false) (q2 : (vl k == 33) = false) (q3 : (vl k == 63) = false) (q4 : (vl k == 42) = false) (q5 : (vl k == 43) = false) :
    Calls Try.prog 81 #[.pointer (some ⟨b, 0, none⟩)] w fun e w' => e = .returned (.slice none 0 0) ∧ w = w' := by
  go_enter Try.func81, Try.ntmps81
  go_wp2_with fail
  go_ret
  exact ⟨rfl, rfl⟩
theorem ways_one (k a c : UInt8) (w : World) (b r x cap : Nat) (c0 : w.cell? ⟨b, 0, none⟩ = some (.int .u8 (vl k))) (c1 : w.cell? ⟨b, 1, none⟩ = some (.int .u8 (vl a))) (c2 : w.cell? ⟨b, 2, none⟩ = some (.int .u8 (vl c))) (c3 : w.cell? ⟨b, 3, none⟩ = some (.slice (some ⟨r, 0, none⟩) 1 cap)) (c4 : w.cell? ⟨r, 0, none⟩ = some (.pointer (some ⟨x, 0, none⟩)))
    (hk : (vl k == 126) = true ∨ (vl k == 126) = false ∧ (vl k == 33) = true ∨ (vl k == 126) = false ∧ (vl k == 33) = false ∧ (vl k == 63) = true) :
    Calls Try.prog 81 #[.pointer (some ⟨b, 0, none⟩)] w fun e w' => ∃ v, e = .returned v ∧ WaysAt w' w.heap.size v [(k, a, c)] ∧ Below w.heap.size w w' := by
  rcases hk with q1 | ⟨q1, q2⟩ | ⟨q1, q2, q3⟩
  all_goals
    go_enter Try.func81, Try.ntmps81
    go_wp2_with fail
    go_region_held3 (fun w' => w'.cell? ⟨b, 0, none⟩ = some (.int .u8 (vl k)) ∧ w'.cell? ⟨b, 1, none⟩ = some (.int .u8 (vl a)) ∧ w'.cell? ⟨b, 2, none⟩ = some (.int .u8 (vl c)) ∧ w'.cell? ⟨b, 3, none⟩ = some (.slice (some ⟨r, 0, none⟩) 1 cap) ∧ w'.cell? ⟨r, 0, none⟩ = some (.pointer (some ⟨x, 0, none⟩)))
      (first | exact ⟨c0, c1, c2, c3, c4⟩ | go_keep) (fail)
    go_wp2_with fail
    go_ret
    exact ⟨_, rfl, (WaysAt.one w (k, a, c) _).keep fun _ _ _ => rfl, pw_below_drewN (below_alloc (Below.refl _ _) _) 1⟩
theorem ways_star (k a c : UInt8) (w : World) (N b r x cap : Nat) (t : Tm) (c0 : w.cell? ⟨b, 0, none⟩ = some (.int .u8 (vl k))) (c3 : w.cell? ⟨b, 3, none⟩ = some (.slice (some ⟨r, 0, none⟩) 1 cap)) (c4 : w.cell? ⟨r, 0, none⟩ = some (.pointer (some ⟨x, 0, none⟩)))
    (q1 : (vl k == 126) = false) (q2 : (vl k == 33) = false) (q3 : (vl k == 63) = false) (q4 : (vl k == 42) = true) (hc : Calls Try.prog 81 #[.pointer (some ⟨x, 0, none⟩)] w (WaysPost w t)) :
    Calls Try.prog 81 #[.pointer (some ⟨b, 0, none⟩)] w (WaysPost w t) := by
  have HC := Lib.hid hc
  clear hc
  go_enter Try.func81, Try.ntmps81
  go_wp2_with fail
  refine HC.out.mono ?_
  rintro e w1 ⟨v, rfl, h1, h2⟩
  go_wp2_with fail
  go_ret
  exact ⟨v, rfl, h1, h2⟩
set_option maxHeartbeats 2000000 in
set_option maxRecDepth 100000 in
theorem ways_sum (n : Nat) (ih : WaysUpto n) (k : UInt8) (w : World) (N b r x y cap : Nat) (t u : Tm) (hn : n ≤ 100) (hs : t.size ≤ n) (hs2 : u.size ≤ n) (hw : Wf isLet t) (hw2 : Wf isLet u) (hx : Lies w N t x) (hy : Lies w N u y) (c0 : w.cell? ⟨b, 0, none⟩ = some (.int .u8 (vl k))) (c3 : w.cell? ⟨b, 3, none⟩ = some (.slice (some ⟨r, 0, none⟩) 2 cap)) (c4 : w.cell? ⟨r, 0, none⟩ = some (.pointer (some ⟨x, 0, none⟩))) (c5 : w.cell? ⟨r, 1, none⟩ = some (.pointer (some ⟨y, 0, none⟩)))
    (q1 : (vl k == 126) = false) (q2 : (vl k == 33) = false) (q3 : (vl k == 63) = false) (q4 : (vl k == 42) = false) (q5 : (vl k == 43) = true) :
    Calls Try.prog 81 #[.pointer (some ⟨b, 0, none⟩)] w fun e w' => ∃ v, e = .returned v ∧ WaysAt w' w.heap.size v (t.ways ++ u.ways) ∧ Below w.heap.size w w' := by
  have hbl : b < w.heap.size := World.block_lt_of_cell? w _ c3
  have hrl : r < w.heap.size := World.block_lt_of_cell? w _ c4
  have hl1 := ways_len t
  have hl2 := ways_len u
  have HLL : Hid (t.ways.length + u.ways.length ≤ 1000) := by simp only [Hid]; omega
  clear hl1 hl2
  go_enter Try.func81, Try.ntmps81
  go_wp2_with fail
  go_region_held3 (fun w' => w'.cell? ⟨b, 3, none⟩ = some (.slice (some ⟨r, 0, none⟩) 2 cap) ∧ w'.cell? ⟨r, 0, none⟩ = some (.pointer (some ⟨x, 0, none⟩)) ∧ w'.cell? ⟨r, 1, none⟩ = some (.pointer (some ⟨y, 0, none⟩)))
    (first | exact ⟨c3, c4, c5⟩ | exact ⟨(hb3.cell hbl).trans ((hb2'.cell (Nat.lt_of_lt_of_le hbl hb.size)).trans ((hb.cell hbl).trans c3)), (hb3.cell hrl).trans ((hb2'.cell (Nat.lt_of_lt_of_le hrl hb.size)).trans ((hb.cell hrl).trans c4)), (hb3.cell hrl).trans ((hb2'.cell (Nat.lt_of_lt_of_le hrl hb.size)).trans ((hb.cell hrl).trans c5))⟩ | exact ⟨(hb2'.cell (Nat.lt_of_lt_of_le hbl hb.size)).trans ((hb.cell hbl).trans c3), (hb2'.cell (Nat.lt_of_lt_of_le hrl hb.size)).trans ((hb.cell hrl).trans c4), (hb2'.cell (Nat.lt_of_lt_of_le hrl hb.size)).trans ((hb.cell hrl).trans c5)⟩ | exact ⟨(hb.cell hbl).trans c3, (hb.cell hrl).trans c4, (hb.cell hrl).trans c5⟩ | go_keep)
    (first | (go_at_call 81; refine (ih t _ N _ hs hw ?_).mono ?_; (exact hx.keep fun _ _ _ => rfl); rintro e w1 ⟨v1, rfl, hw1, hb0⟩; have hb : Below w.heap.size w w1 := ⟨hb0.os, hb0.tape, hb0.output, hb0.size, hb0.block⟩) | (go_at_call 81; refine (ih u _ N _ hs2 hw2 ?_).mono ?_; (exact hy.below hb); rintro e w2 ⟨v2, rfl, hw2', hb2'⟩) | (refine step_append_ways (by rfl) (.tmp 48) (.tmp 55) (by rfl) (N := w.heap.size) (hw1.keep (fun i _ hi => hb2'.block i hi)) hw2' (Nat.le_trans hb.size hb2'.size) HLL.out (by rfl) (by rfl) ?_; intro v3 w3 hw3 hg3; have hb3 : Below w.heap.size w2 w3 := grown_below hw1 (Nat.le_trans hb.size hb2'.size) hg3))
  go_wp2_with fail
  go_ret
  have h0 : Below w.heap.size w w2 := below_then hb hb.size ⟨hb2'.os, hb2'.tape, hb2'.output, hb2'.size, hb2'.block⟩
  exact ⟨v3, rfl, hw3, ⟨hb3.os.trans h0.os, hb3.tape.trans h0.tape, hb3.output.trans h0.output, Nat.le_trans h0.size hb3.size, fun i hi => (hb3.block i hi).trans (h0.block i hi)⟩⟩

theorem un_way {k a b : UInt8} {t : Tm} (h : Wf isLet (.un k a b t)) : (k = 33 ∨ k = 63 ∨ k = 126) ∨ k = 42 ∨ (k = 61 ∨ k = 35) := by
  rcases h.1 with ⟨rfl | rfl | rfl, _⟩ | ⟨rfl, _⟩ | ⟨rfl | rfl, _⟩ <;> simp
theorem ways_upto (n : Nat) (hn : n ≤ 100) : WaysUpto n := by
  induction n with
  | zero => intro t w N b h; have := t.size_pos; omega
  | succ n ih =>
    have ih := ih (by omega)
    intro t w N b hs hw hl
    cases t with
    | leaf k a c =>
      obtain ⟨rfl, _, _⟩ := hw
      obtain ⟨_, o, cap, h⟩ := hl
      refine (ways_none 48 w b h.cells.1 rfl rfl rfl rfl rfl).mono ?_
      rintro e w' ⟨rfl, rfl⟩
      exact ⟨_, rfl, WaysAt.nil _ _, Below.refl _ _⟩
    | un k a c t =>
      simp only [Tm.size] at hs
      obtain ⟨_, r, cap, x, _, h, h2, h3⟩ := hl
      rcases un_way hw with h1 | h1 | h1
      · have e : (Tm.un k a c t).ways = [(k, a, c)] := by simp only [Tm.ways]; rw [if_pos (by rcases h1 with h | h | h <;> simp [h])]
        unfold WaysPost
        rw [e]
        refine ways_one k a c w b r x cap h.cells.1 h.cells.2.1 h.cells.2.2.1 h.cells.2.2.2 h2.cell ?_
        rcases h1 with rfl | rfl | rfl
        · exact .inr (.inl ⟨rfl, rfl⟩)
        · exact .inr (.inr ⟨rfl, rfl, rfl⟩)
        · exact .inl rfl
      · subst h1
        exact ways_star 42 a c w N b r x cap t h.cells.1 h.cells.2.2.2 h2.cell rfl rfl rfl rfl (ih t w N x (by omega) hw.2 h3)
      · have e : (Tm.un k a c t).ways = [] := by rcases h1 with rfl | rfl <;> rfl
        unfold WaysPost
        rw [e]
        refine (ways_none k w b h.cells.1 ?_ ?_ ?_ ?_ ?_).mono ?_
        case _ => rcases h1 with rfl | rfl <;> rfl
        case _ => rcases h1 with rfl | rfl <;> rfl
        case _ => rcases h1 with rfl | rfl <;> rfl
        case _ => rcases h1 with rfl | rfl <;> rfl
        case _ => rcases h1 with rfl | rfl <;> rfl
        rintro e w' ⟨rfl, rfl⟩
        exact ⟨_, rfl, WaysAt.nil _ _, Below.refl _ _⟩
    | bin k a c t u =>
      simp only [Tm.size] at hs
      obtain ⟨_, r, cap, x, y, _, h, h2, h2', h3, h4⟩ := hl
      rcases hw.1 with rfl | rfl
      · exact ways_sum n ih 43 w N b r x y cap t u (by omega) (by omega) (by omega) hw.2.2.2.1 hw.2.2.2.2 h3 h4 h.cells.1 h.cells.2.2.2 h2.cell h2'.cell rfl rfl rfl rfl rfl
      · refine (ways_none 38 w b h.cells.1 rfl rfl rfl rfl rfl).mono ?_
        rintro e w' ⟨rfl, rfl⟩
        exact ⟨_, rfl, WaysAt.nil _ _, Below.refl _ _⟩
theorem ways_calls (t : Tm) (w : World) (N b : Nat) (hs : t.size ≤ 100) (hw : Wf isLet t) (hl : Lies w N t b) : Calls Try.prog 81 #[.pointer (some ⟨b, 0, none⟩)] w (WaysPost w t) :=
  ways_upto 100 (Nat.le_refl _) t w N b hs hw hl

end Go.Proofs.Ytfcadppidgkoaaa
namespace Go.Proofs.Ytfcadppidgkoaaa
open Go.RowKit Go.Proofs.YtfcadppidgkoaaaW.PrintWords Go.Proofs.YtfcadppidgkoaaaW.PrintMore
set_option linter.unusedVariables false
set_option linter.unusedSimpArgs false

theorem vlBeq (c d : UInt8) : (vl c == vl d) = (c == d) := by rw [Bool.eq_iff_iff]; simp [vl_inj]
def wayV (x : UInt8 × UInt8 × UInt8) (p : Option Addr) : Value := .agg #[.int .u8 (vl x.1), .int .u8 (vl x.2.1), .int .u8 (vl x.2.2), .pointer p]
def fitV (k a k2 a2 : UInt8) : Bool := (vl a == vl a2) && ((vl k == 33 && vl k2 == 63) || (vl k == 63 && vl k2 == 33))
theorem fitV_eq (k a b k2 a2 b2 : UInt8) : fitV k a k2 a2 = fitB (k, a, b) (k2, a2, b2) := by
  simp only [fitV, fitB]
  rw [show (33 : Int) = vl 33 from rfl, show (63 : Int) = vl 63 from rfl]
  simp only [vlBeq]
theorem fits_calls (k a b k2 a2 b2 : UInt8) (p q : Option Addr) (w : World) :
    Calls Try.prog 118 #[.agg #[.int .u8 (vl k), .int .u8 (vl a), .int .u8 (vl b), .pointer p], .agg #[.int .u8 (vl k2), .int .u8 (vl a2), .int .u8 (vl b2), .pointer q]] w fun e w' => e = .returned (.bool (fitB (k, a, b) (k2, a2, b2))) ∧ Below w.heap.size w w' := by
  rcases h1 : (vl a == vl a2) with _ | _
  · go_enter Try.func118, Try.ntmps118
    go_wp2_with fail
    go_ret
    exact ⟨by rw [← fitV_eq, fitV, h1]; rfl, below_alloc (below_alloc (Below.refl _ _) _) _⟩
  rcases h2 : (vl k == 33) with _ | _
  · rcases h3 : (vl k == 63) with _ | _
    · go_enter Try.func118, Try.ntmps118
      go_wp2_with fail
      go_ret
      exact ⟨by rw [← fitV_eq, fitV, h1, h2, h3]; rfl, below_alloc (below_alloc (Below.refl _ _) _) _⟩
    · rcases h4 : (vl k2 == 33) with _ | _
      · go_enter Try.func118, Try.ntmps118
        go_wp2_with fail
        go_ret
        exact ⟨by rw [← fitV_eq, fitV, h1, h2, h3, h4]; rfl, below_alloc (below_alloc (Below.refl _ _) _) _⟩
      · go_enter Try.func118, Try.ntmps118
        go_wp2_with fail
        go_ret
        exact ⟨by rw [← fitV_eq, fitV, h1, h2, h3, h4]; rfl, below_alloc (below_alloc (Below.refl _ _) _) _⟩
  · have h3 : (vl k == 63) = false := by rw [beq_iff_eq] at h2; rw [h2]; rfl
    rcases h4 : (vl k2 == 63) with _ | _
    · go_enter Try.func118, Try.ntmps118
      go_wp2_with fail
      go_ret
      exact ⟨by rw [← fitV_eq, fitV, h1, h2, h3, h4]; rfl, below_alloc (below_alloc (Below.refl _ _) _) _⟩
    · go_enter Try.func118, Try.ntmps118
      go_wp2_with fail
      go_ret
      exact ⟨by rw [← fitV_eq, fitV, h1, h2, h3, h4]; rfl, below_alloc (below_alloc (Below.refl _ _) _) _⟩

theorem drop_any {α : Type} (L : List α) (p : α → Bool) (k : Nat) (h : k < L.length) : (L.drop k).any p = (p L[k] || (L.drop (k + 1)).any p) := by
  rw [List.drop_eq_getElem_cons h, List.any_cons]
theorem meas4 (n k : Nat) (h : k < n) : n - (intOf (.int .i64 ((k + 1 : Nat) : Int))).toNat < n - (intOf (.int .i64 (k : Nat))).toNat := by simp [intOf]; omega
section
variable (kx ax bx : UInt8) (px : Option Addr)
theorem idxFIT (wb : World) (N : Nat) (v : Value) (L : List (UInt8 × UInt8 × UInt8)) (hL : L.length ≤ 1000) (hv : WaysAt wb N v L) (p : UInt8 × UInt8 × UInt8 → Bool)
    (step : ∀ (k a b : UInt8) (q : Option Addr) (w : World), Below wb.heap.size wb w → Calls Try.prog 118 #[.agg #[.int .u8 (vl kx), .int .u8 (vl ax), .int .u8 (vl bx), .pointer px], .agg #[.int .u8 (vl k), .int .u8 (vl a), .int .u8 (vl b), .pointer q]] w fun e w' => e = .returned (.bool (p (k, a, b))) ∧ Below w.heap.size w w') :
    Calls Try.prog 115 #[v, (.func (.func 118) #[.agg #[.int .u8 (vl kx), .int .u8 (vl ax), .int .u8 (vl bx), .pointer px]] #[])] wb fun e w' => ∃ z : Int, e = .returned (.int .i64 z) ∧ decide (0 ≤ z) = L.any p ∧ Below wb.heap.size wb w' := by
  obtain ⟨o, cap, rfl, hcap, hk⟩ := hv.at
  have HK := Lib.hid hk
  have HS := Lib.hid step
  clear hk step hv
  go_enter Try.func115, Try.ntmps115
  go_wp2_with fail
  go_loopw [8] (fun i wr => ∃ k : Nat, k ≤ L.length ∧ i = .int .i64 k ∧ (L.drop k).any p = L.any p ∧ Below wb.heap.size wb wr) (fun i _ => L.length - (intOf i).toNat)
  case atStart => exact ⟨0, Nat.zero_le _, rfl, rfl, Below.refl _ _⟩
  case round =>
    obtain ⟨k, hk, rfl, hany, hbr⟩ := hrel
    have HA := Lib.hid hany
    have HB := Lib.hid hbr
    clear hany
    by_cases hlt : k < L.length
    · obtain ⟨g, q, rfl, e0, e1, e2, e3⟩ := HK.out k hlt
      obtain ⟨x, hx⟩ : ∃ x, x = L[k] := ⟨_, rfl⟩
      rw [← hx] at e0 e1 e2
      have c0 := (hbr.cell (World.block_lt_of_cell? wb _ e0)).trans e0
      have c1 := (hbr.cell (World.block_lt_of_cell? wb _ e1)).trans e1
      have c2 := (hbr.cell (World.block_lt_of_cell? wb _ e2)).trans e2
      have c3 := (hbr.cell (World.block_lt_of_cell? wb _ e3)).trans e3
      have HD : Hid ((L.drop k).any p = (p x || (L.drop (k + 1)).any p)) := by rw [hx]; exact drop_any L p k hlt
      clear e0 e1 e2 e3 hx hbr
      go_wp2_with fail
      refine (HS.out x.1 x.2.1 x.2.2 q wr HB.out).mono ?_
      rintro e w2 ⟨rfl, hb2⟩
      have HB2 := Lib.hid (below_then HB.out HB.out.size hb2)
      clear hb2 c0 c1 c2 c3
      rcases hp : p x with _ | _
      · have hp2 : p (x.1, x.2.1, x.2.2) = false := hp
        have HA2 : Hid ((L.drop (k + 1)).any p = L.any p) := by rw [Hid, ← HA.out, HD.out, hp]; rfl
        clear hp hp2
        go_wp2_with fail
        go_roundw
        case rel => exact ⟨k + 1, by omega, by go_num, HA2.out, HB2.out⟩
        case measure => exact meas4 _ _ hlt
      · have hp2 : p (x.1, x.2.1, x.2.2) = true := hp
        have HA2 : Hid (L.any p = true) := by rw [Hid, ← HA.out, HD.out, hp]; rfl
        clear hp hp2
        go_wp2_with fail
        go_ret
        exact ⟨_, rfl, by rw [HA2.out]; exact decide_eq_true (by omega), HB2.out⟩
    · have HF : Hid (L.any p = false) := by rw [Hid, ← HA.out, List.drop_eq_nil_of_le (by omega)]; rfl
      go_wp2_with fail
      go_ret
      exact ⟨-1, rfl, by rw [HF.out]; rfl, HB.out⟩
theorem hasFIT (wb : World) (N : Nat) (v : Value) (L : List (UInt8 × UInt8 × UInt8)) (hL : L.length ≤ 1000) (hv : WaysAt wb N v L) (p : UInt8 × UInt8 × UInt8 → Bool)
    (step : ∀ (k a b : UInt8) (q : Option Addr) (w : World), Below wb.heap.size wb w → Calls Try.prog 118 #[.agg #[.int .u8 (vl kx), .int .u8 (vl ax), .int .u8 (vl bx), .pointer px], .agg #[.int .u8 (vl k), .int .u8 (vl a), .int .u8 (vl b), .pointer q]] w fun e w' => e = .returned (.bool (p (k, a, b))) ∧ Below w.heap.size w w') :
    Calls Try.prog 80 #[v, (.func (.func 118) #[.agg #[.int .u8 (vl kx), .int .u8 (vl ax), .int .u8 (vl bx), .pointer px]] #[])] wb fun e w' => e = .returned (.bool (L.any p)) ∧ Below wb.heap.size wb w' := by
  have HC := Lib.hid (idxFIT kx ax bx px wb N v L hL hv p step)
  clear step hv
  go_enter Try.func80, Try.ntmps80
  go_wp2_with fail
  refine HC.out.mono ?_
  rintro e w2 ⟨z, rfl, hz, hb⟩
  have HZ := Lib.hid hz
  clear hz
  go_wp2_with fail
  go_ret
  exact ⟨by rw [← HZ.out]; rfl, hb⟩
end

section
variable (ub : Nat)
theorem idxMEET (wb : World) (N : Nat) (v : Value) (L : List (UInt8 × UInt8 × UInt8)) (hL : L.length ≤ 1000) (hv : WaysAt wb N v L) (p : UInt8 × UInt8 × UInt8 → Bool)
    (step : ∀ (k a b : UInt8) (q : Option Addr) (w : World), Below wb.heap.size wb w → Calls Try.prog 117 #[.agg #[.int .u8 (vl k), .int .u8 (vl a), .int .u8 (vl b), .pointer q], .pointer (some ⟨ub, 0, none⟩)] w fun e w' => e = .returned (.bool (p (k, a, b))) ∧ Below w.heap.size w w') :
    Calls Try.prog 115 #[v, (.func (.func 117) #[] #[.pointer (some ⟨ub, 0, none⟩)])] wb fun e w' => ∃ z : Int, e = .returned (.int .i64 z) ∧ decide (0 ≤ z) = L.any p ∧ Below wb.heap.size wb w' := by
  obtain ⟨o, cap, rfl, hcap, hk⟩ := hv.at
  have HK := Lib.hid hk
  have HS := Lib.hid step
  clear hk step hv
  go_enter Try.func115, Try.ntmps115
  go_wp2_with fail
  go_loopw [8] (fun i wr => ∃ k : Nat, k ≤ L.length ∧ i = .int .i64 k ∧ (L.drop k).any p = L.any p ∧ Below wb.heap.size wb wr) (fun i _ => L.length - (intOf i).toNat)
  case atStart => exact ⟨0, Nat.zero_le _, rfl, rfl, Below.refl _ _⟩
  case round =>
    obtain ⟨k, hk, rfl, hany, hbr⟩ := hrel
    have HA := Lib.hid hany
    have HB := Lib.hid hbr
    clear hany
    by_cases hlt : k < L.length
    · obtain ⟨g, q, rfl, e0, e1, e2, e3⟩ := HK.out k hlt
      obtain ⟨x, hx⟩ : ∃ x, x = L[k] := ⟨_, rfl⟩
      rw [← hx] at e0 e1 e2
      have c0 := (hbr.cell (World.block_lt_of_cell? wb _ e0)).trans e0
      have c1 := (hbr.cell (World.block_lt_of_cell? wb _ e1)).trans e1
      have c2 := (hbr.cell (World.block_lt_of_cell? wb _ e2)).trans e2
      have c3 := (hbr.cell (World.block_lt_of_cell? wb _ e3)).trans e3
      have HD : Hid ((L.drop k).any p = (p x || (L.drop (k + 1)).any p)) := by rw [hx]; exact drop_any L p k hlt
      clear e0 e1 e2 e3 hx hbr
      go_wp2_with fail
      refine (HS.out x.1 x.2.1 x.2.2 q wr HB.out).mono ?_
      rintro e w2 ⟨rfl, hb2⟩
      have HB2 := Lib.hid (below_then HB.out HB.out.size hb2)
      clear hb2 c0 c1 c2 c3
      rcases hp : p x with _ | _
      · have hp2 : p (x.1, x.2.1, x.2.2) = false := hp
        have HA2 : Hid ((L.drop (k + 1)).any p = L.any p) := by rw [Hid, ← HA.out, HD.out, hp]; rfl
        clear hp hp2
        go_wp2_with fail
        go_roundw
        case rel => exact ⟨k + 1, by omega, by go_num, HA2.out, HB2.out⟩
        case measure => exact meas4 _ _ hlt
      · have hp2 : p (x.1, x.2.1, x.2.2) = true := hp
        have HA2 : Hid (L.any p = true) := by rw [Hid, ← HA.out, HD.out, hp]; rfl
        clear hp hp2
        go_wp2_with fail
        go_ret
        exact ⟨_, rfl, by rw [HA2.out]; exact decide_eq_true (by omega), HB2.out⟩
    · have HF : Hid (L.any p = false) := by rw [Hid, ← HA.out, List.drop_eq_nil_of_le (by omega)]; rfl
      go_wp2_with fail
      go_ret
      exact ⟨-1, rfl, by rw [HF.out]; rfl, HB.out⟩
theorem hasMEET (wb : World) (N : Nat) (v : Value) (L : List (UInt8 × UInt8 × UInt8)) (hL : L.length ≤ 1000) (hv : WaysAt wb N v L) (p : UInt8 × UInt8 × UInt8 → Bool)
    (step : ∀ (k a b : UInt8) (q : Option Addr) (w : World), Below wb.heap.size wb w → Calls Try.prog 117 #[.agg #[.int .u8 (vl k), .int .u8 (vl a), .int .u8 (vl b), .pointer q], .pointer (some ⟨ub, 0, none⟩)] w fun e w' => e = .returned (.bool (p (k, a, b))) ∧ Below w.heap.size w w') :
    Calls Try.prog 80 #[v, (.func (.func 117) #[] #[.pointer (some ⟨ub, 0, none⟩)])] wb fun e w' => e = .returned (.bool (L.any p)) ∧ Below wb.heap.size wb w' := by
  have HC := Lib.hid (idxMEET ub wb N v L hL hv p step)
  clear step hv
  go_enter Try.func80, Try.ntmps80
  go_wp2_with fail
  refine HC.out.mono ?_
  rintro e w2 ⟨z, rfl, hz, hb⟩
  have HZ := Lib.hid hz
  clear hz
  go_wp2_with fail
  go_ret
  exact ⟨by rw [← HZ.out]; rfl, hb⟩
end
set_option maxHeartbeats 2000000 in
set_option maxRecDepth 100000 in
theorem meet1_calls (u : Tm) (hs : u.size ≤ 100) (hw : Wf isLet u) (k a b : UInt8) (q : Option Addr) (w : World) (N y ub : Nat) (hu : w.cell? ⟨ub, 0, none⟩ = some (.pointer (some ⟨y, 0, none⟩))) (hl : Lies w N u y) :
    Calls Try.prog 117 #[.agg #[.int .u8 (vl k), .int .u8 (vl a), .int .u8 (vl b), .pointer q], .pointer (some ⟨ub, 0, none⟩)] w fun e w' => e = .returned (.bool (u.ways.any (fitB (k, a, b)))) ∧ Below w.heap.size w w' := by
  have hul : ub < w.heap.size := World.block_lt_of_cell? w _ hu
  have hwl := ways_len u
  have HL : Hid (u.ways.length ≤ 1000) := by simp only [Hid]; omega
  obtain ⟨wa, hwa⟩ : ∃ wa, wa = w.alloc (.cells #[.int .u8 (vl k), .int .u8 (vl a), .int .u8 (vl b), .pointer q] 82) := ⟨_, rfl⟩
  have hba : Below w.heap.size w wa := by rw [hwa]; exact below_alloc (Below.refl _ _) _
  have hza : wa.heap.size = w.heap.size + 1 := by rw [hwa]; simp
  have hblk : wa.heap[w.heap.size]? = some (.cells #[.int .u8 (vl k), .int .u8 (vl a), .int .u8 (vl b), .pointer q] 82 (0, 0)) := by rw [hwa]; exact heap_alloc_new w _
  have u1 := (hba.cell hul).trans hu
  have a0 : wa.cell? ⟨w.heap.size, 0, none⟩ = some (.int .u8 (vl k)) := blk_cell hblk 0
  have a1 : wa.cell? ⟨w.heap.size, 1, none⟩ = some (.int .u8 (vl a)) := blk_cell hblk 1
  have a2 : wa.cell? ⟨w.heap.size, 2, none⟩ = some (.int .u8 (vl b)) := blk_cell hblk 2
  have a3 : wa.cell? ⟨w.heap.size, 3, none⟩ = some (.pointer q) := blk_cell hblk 3
  have hla := hl.below hba
  have hul2 : ub < wa.heap.size := by omega
  have hwl2 : w.heap.size < wa.heap.size := by omega
  clear hwl hblk
  go_enter Try.func117, Try.ntmps117
  go_wp2_with fail
  rw [← hwa]
  clear hwa hu hl
  go_region_held3 (fun w' => w'.cell? ⟨ub, 0, none⟩ = some (.pointer (some ⟨y, 0, none⟩)) ∧ w'.cell? ⟨w.heap.size, 0, none⟩ = some (.int .u8 (vl k)) ∧ w'.cell? ⟨w.heap.size, 1, none⟩ = some (.int .u8 (vl a)) ∧ w'.cell? ⟨w.heap.size, 2, none⟩ = some (.int .u8 (vl b)) ∧ w'.cell? ⟨w.heap.size, 3, none⟩ = some (.pointer q))
    (first | exact ⟨u1, a0, a1, a2, a3⟩ | exact ⟨((hb3.cell (Nat.lt_of_lt_of_le hul2 hb2.size)).trans (hb2.cell hul2)).trans u1, ((hb3.cell (Nat.lt_of_lt_of_le hwl2 hb2.size)).trans (hb2.cell hwl2)).trans a0, ((hb3.cell (Nat.lt_of_lt_of_le hwl2 hb2.size)).trans (hb2.cell hwl2)).trans a1, ((hb3.cell (Nat.lt_of_lt_of_le hwl2 hb2.size)).trans (hb2.cell hwl2)).trans a2, ((hb3.cell (Nat.lt_of_lt_of_le hwl2 hb2.size)).trans (hb2.cell hwl2)).trans a3⟩ | exact ⟨(hb2.cell hul2).trans u1, (hb2.cell hwl2).trans a0, (hb2.cell hwl2).trans a1, (hb2.cell hwl2).trans a2, (hb2.cell hwl2).trans a3⟩ | go_keep)
    (first | (go_at_call 81; refine (ways_calls u _ N _ hs hw ?_).mono ?_; (exact hla.keep fun _ _ _ => rfl); rintro e w2 ⟨v, rfl, hv2, hb20⟩; have hb2 : Below wa.heap.size wa w2 := ⟨hb20.os, hb20.tape, hb20.output, hb20.size, hb20.block⟩) | (go_at_call 80; refine (hasFIT k a b q _ _ _ _ HL.out (hv2.keep fun _ _ _ => rfl) (fitB (k, a, b)) (fun k2 a2 b2 q2 w' _ => fits_calls _ _ _ _ _ _ _ _ _)).mono ?_; rintro e w3 ⟨rfl, hb30⟩; have hb3 : Below w2.heap.size w2 w3 := ⟨hb30.os, hb30.tape, hb30.output, hb30.size, hb30.block⟩))
  all_goals
    go_wp2_with fail
    go_ret
    exact ⟨rfl, below_then (below_then hba hba.size hb2) (Nat.le_trans hba.size hb2.size) hb3⟩

set_option maxHeartbeats 2000000 in
theorem canMeet_calls (t u : Tm) (hs : t.size ≤ 100) (hs2 : u.size ≤ 100) (hw : Wf isLet t) (hw2 : Wf isLet u) (w : World) (N M x y : Nat) (hl : Lies w N t x) (hl2 : Lies w M u y) :
    Calls Try.prog 85 #[.pointer (some ⟨x, 0, none⟩), .pointer (some ⟨y, 0, none⟩)] w fun e w' => e = .returned (.bool (meetB t u)) ∧ Below w.heap.size w w' := by
  have hwl := ways_len t
  have HL : Hid (t.ways.length ≤ 1000) := by simp only [Hid]; omega
  obtain ⟨wa, hwa⟩ : ∃ wa, wa = w.alloc (.cells #[.pointer (some ⟨y, 0, none⟩)] 50) := ⟨_, rfl⟩
  have hba : Below w.heap.size w wa := by rw [hwa]; exact below_alloc (Below.refl _ _) _
  have hza : wa.heap.size = w.heap.size + 1 := by rw [hwa]; simp
  have hblk : wa.heap[w.heap.size]? = some (.cells #[.pointer (some ⟨y, 0, none⟩)] 50 (0, 0)) := by rw [hwa]; exact heap_alloc_new w _
  have u1 : wa.cell? ⟨w.heap.size, 0, none⟩ = some (.pointer (some ⟨y, 0, none⟩)) := blk_cell hblk 0
  have hla := hl.below hba
  have hla2 := hl2.below hba
  have hwl2 : w.heap.size < wa.heap.size := by omega
  clear hwl hblk
  go_enter Try.func85, Try.ntmps85
  go_wp2_with fail
  rw [← hwa]
  clear hwa hl hl2
  refine (ways_calls t _ N _ hs hw hla).mono ?_
  rintro e w2 ⟨v, rfl, hv, hb2⟩
  have HB2 := Lib.hid hb2
  have HC := Lib.hid (hasMEET w.heap.size w2 _ v t.ways HL.out hv (fun z => u.ways.any (fitB z)) fun k a b q w' hb' => meet1_calls u hs2 hw2 k a b q w' M y w.heap.size ((hb'.cell (Nat.lt_of_lt_of_le hwl2 hb2.size)).trans ((hb2.cell hwl2).trans u1)) ((hla2.below hb2).below hb'))
  clear hv hb2
  go_wp2_with fail
  refine HC.out.mono ?_
  rintro e w3 ⟨rfl, hb3⟩
  go_wp2_with fail
  go_ret
  exact ⟨rfl, below_then (below_then hba hba.size HB2.out) (Nat.le_trans hba.size HB2.out.size) hb3⟩
section
variable {P0 : Program}
theorem idxTAU (wb : World) (N : Nat) (v : Value) (L : List (UInt8 × UInt8 × UInt8)) (hL : L.length ≤ 1000) (hv : WaysAt wb N v L) (p : UInt8 × UInt8 × UInt8 → Bool)
    (step : ∀ (k a b : UInt8) (q : Option Addr) (w : World), Below wb.heap.size wb w → Calls Try.prog 82 #[.agg #[.int .u8 (vl k), .int .u8 (vl a), .int .u8 (vl b), .pointer q]] w fun e w' => e = .returned (.bool (p (k, a, b))) ∧ Below w.heap.size w w') :
    Calls Try.prog 115 #[v, (.func (.func 82) #[] #[])] wb fun e w' => ∃ z : Int, e = .returned (.int .i64 z) ∧ decide (0 ≤ z) = L.any p ∧ Below wb.heap.size wb w' := by
  obtain ⟨o, cap, rfl, hcap, hk⟩ := hv.at
  have HK := Lib.hid hk
  have HS := Lib.hid step
  clear hk step hv
  go_enter Try.func115, Try.ntmps115
  go_wp2_with fail
  go_loopw [8] (fun i wr => ∃ k : Nat, k ≤ L.length ∧ i = .int .i64 k ∧ (L.drop k).any p = L.any p ∧ Below wb.heap.size wb wr) (fun i _ => L.length - (intOf i).toNat)
  case atStart => exact ⟨0, Nat.zero_le _, rfl, rfl, Below.refl _ _⟩
  case round =>
    obtain ⟨k, hk, rfl, hany, hbr⟩ := hrel
    have HA := Lib.hid hany
    have HB := Lib.hid hbr
    clear hany
    by_cases hlt : k < L.length
    · obtain ⟨g, q, rfl, e0, e1, e2, e3⟩ := HK.out k hlt
      obtain ⟨x, hx⟩ : ∃ x, x = L[k] := ⟨_, rfl⟩
      rw [← hx] at e0 e1 e2
      have c0 := (hbr.cell (World.block_lt_of_cell? wb _ e0)).trans e0
      have c1 := (hbr.cell (World.block_lt_of_cell? wb _ e1)).trans e1
      have c2 := (hbr.cell (World.block_lt_of_cell? wb _ e2)).trans e2
      have c3 := (hbr.cell (World.block_lt_of_cell? wb _ e3)).trans e3
      have HD : Hid ((L.drop k).any p = (p x || (L.drop (k + 1)).any p)) := by rw [hx]; exact drop_any L p k hlt
      clear e0 e1 e2 e3 hx hbr
      go_wp2_with fail
      refine (HS.out x.1 x.2.1 x.2.2 q wr HB.out).mono ?_
      rintro e w2 ⟨rfl, hb2⟩
      have HB2 := Lib.hid (below_then HB.out HB.out.size hb2)
      clear hb2 c0 c1 c2 c3
      rcases hp : p x with _ | _
      · have hp2 : p (x.1, x.2.1, x.2.2) = false := hp
        have HA2 : Hid ((L.drop (k + 1)).any p = L.any p) := by rw [Hid, ← HA.out, HD.out, hp]; rfl
        clear hp hp2
        go_wp2_with fail
        go_roundw
        case rel => exact ⟨k + 1, by omega, by go_num, HA2.out, HB2.out⟩
        case measure => exact meas4 _ _ hlt
      · have hp2 : p (x.1, x.2.1, x.2.2) = true := hp
        have HA2 : Hid (L.any p = true) := by rw [Hid, ← HA.out, HD.out, hp]; rfl
        clear hp hp2
        go_wp2_with fail
        go_ret
        exact ⟨_, rfl, by rw [HA2.out]; exact decide_eq_true (by omega), HB2.out⟩
    · have HF : Hid (L.any p = false) := by rw [Hid, ← HA.out, List.drop_eq_nil_of_le (by omega)]; rfl
      go_wp2_with fail
      go_ret
      exact ⟨-1, rfl, by rw [HF.out]; rfl, HB.out⟩
theorem hasTAU (wb : World) (N : Nat) (v : Value) (L : List (UInt8 × UInt8 × UInt8)) (hL : L.length ≤ 1000) (hv : WaysAt wb N v L) (p : UInt8 × UInt8 × UInt8 → Bool)
    (step : ∀ (k a b : UInt8) (q : Option Addr) (w : World), Below wb.heap.size wb w → Calls Try.prog 82 #[.agg #[.int .u8 (vl k), .int .u8 (vl a), .int .u8 (vl b), .pointer q]] w fun e w' => e = .returned (.bool (p (k, a, b))) ∧ Below w.heap.size w w') :
    Calls Try.prog 80 #[v, (.func (.func 82) #[] #[])] wb fun e w' => e = .returned (.bool (L.any p)) ∧ Below wb.heap.size wb w' := by
  have HC := Lib.hid (idxTAU  wb N v L hL hv p step)
  clear step hv
  go_enter Try.func80, Try.ntmps80
  go_wp2_with fail
  refine HC.out.mono ?_
  rintro e w2 ⟨z, rfl, hz, hb⟩
  have HZ := Lib.hid hz
  clear hz
  go_wp2_with fail
  go_ret
  exact ⟨by rw [← HZ.out]; rfl, hb⟩
end
theorem tau1_calls (k a b : UInt8) (q : Option Addr) (w : World) :
    Calls Try.prog 82 #[.agg #[.int .u8 (vl k), .int .u8 (vl a), .int .u8 (vl b), .pointer q]] w fun e w' => e = .returned (.bool (k == 126)) ∧ Below w.heap.size w w' := by
  have hv : Hid ((k == 126) = (vl k == 126)) := (vlBeq k 126).symm
  go_enter Try.func82, Try.ntmps82
  go_wp2_with fail
  go_ret
  exact ⟨by rw [hv.out]; rfl, below_alloc (Below.refl _ _) _⟩

end Go.Proofs.Ytfcadppidgkoaaa
namespace Go.Proofs.Ytfcadppidgkoaaa
open Go.RowKit Go.Proofs.YtfcadppidgkoaaaW.PrintWords Go.Proofs.YtfcadppidgkoaaaW.PrintMore
set_option linter.unusedVariables false
set_option linter.unusedSimpArgs false

def Strs (w : World) (o : Option Addr) (xs : List (List UInt8)) : Prop := ∀ (i : Nat) (h : i < xs.length), ∃ g, o = some ⟨g, 0, none⟩ ∧ w.cell? ⟨g, i, none⟩ = some (.string (B xs[i]))
theorem Strs.below {w w' : World} {o : Option Addr} {xs : List (List UInt8)} (h : Strs w o xs) (hb : Below w.heap.size w w') : Strs w' o xs := fun i hi => by
  obtain ⟨g, e, hc⟩ := h i hi
  exact ⟨g, e, (hb.cell (World.block_lt_of_cell? w _ hc)).trans hc⟩
theorem idx_has (l : List UInt8) (c : UInt8) : decide (0 ≤ Lib.indexByte l c) = l.contains c := by
  by_cases h : 0 ≤ Lib.indexByte l c
  · obtain ⟨j, hj⟩ : ∃ j : Nat, Lib.indexByte l c = j := ⟨(Lib.indexByte l c).toNat, by omega⟩
    rw [decide_eq_true h]
    exact (List.contains_iff_mem.mpr (List.mem_of_getElem? (Lib.indexByte_some hj).1)).symm
  · rw [decide_eq_false h]
    cases hc : l.contains c with
    | false => rfl
    | true =>
      obtain ⟨j, hj⟩ := List.getElem?_of_mem (List.contains_iff_mem.mp hc)
      exact absurd hj (Lib.indexByte_none (by have := Lib.indexByte_ge l c; omega) j)

def LiesIn (w : World) (lo hi : Nat) (t : Tm) (b : Nat) : Prop := hi ≤ w.heap.size ∧ ∃ w0 : World, w0.heap.size = hi ∧ Lies w0 lo t b ∧ ∀ j, lo ≤ j → j < hi → w.heap[j]? = w0.heap[j]?
theorem LiesIn.lies {w : World} {lo hi : Nat} {t : Tm} {b : Nat} (h : LiesIn w lo hi t b) : Lies w lo t b := by
  obtain ⟨_, w0, e, h1, h2⟩ := h
  exact h1.keep fun i hi hi' => h2 i hi (by omega)
theorem LiesIn.of {w : World} {lo : Nat} {t : Tm} {b : Nat} (h : Lies w lo t b) : LiesIn w lo w.heap.size t b := ⟨Nat.le_refl _, w, rfl, h, fun _ _ _ => rfl⟩
theorem LiesIn.keep {w w' : World} {lo hi : Nat} {t : Tm} {b : Nat} (h : LiesIn w lo hi t b) (hs : w.heap.size ≤ w'.heap.size) (hk : ∀ j, lo ≤ j → j < hi → w'.heap[j]? = w.heap[j]?) : LiesIn w' lo hi t b := by
  obtain ⟨h0, w0, e, h1, h2⟩ := h
  exact ⟨by omega, w0, e, h1, fun j a c => (hk j a c).trans (h2 j a c)⟩
def TermsAt (w : World) (N : Nat) (v : Value) (ts : List Tm) : Prop :=
  ∃ bs : List Nat, bs.length = ts.length ∧ w.ownsRow N 50 1 v bs.length (bs.map fun b => .pointer (some ⟨b, 0, none⟩)) ∧
    ∀ (i : Nat) (h : i < ts.length) (h2 : i < bs.length), ∃ lo hi, N ≤ lo ∧ LiesIn w lo hi ts[i] bs[i] ∧ ∀ k, v.ownBlock = some k → ¬ (lo ≤ k ∧ k < hi)
theorem TermsAt.keep {w w' : World} {N : Nat} {v : Value} {ts : List Tm} (h : TermsAt w N v ts) (hs : w.heap.size ≤ w'.heap.size) (hk : ∀ i, N ≤ i → i < w.heap.size → w'.heap[i]? = w.heap[i]?) : TermsAt w' N v ts := by
  obtain ⟨bs, h1, ⟨h2, h3⟩, h4⟩ := h
  refine ⟨bs, h1, ⟨h2, ?_⟩, fun i hi hi2 => ?_⟩
  · rcases h3 with h3 | ⟨g, cap, cur, q1, q2, q3, q4⟩
    · exact .inl h3
    · exact .inr ⟨g, cap, cur, q1, q2, (hk g q2 (blk_lt q3)).trans q3, q4⟩
  · obtain ⟨lo, hi', a, c, d⟩ := h4 i hi hi2
    exact ⟨lo, hi', a, c.keep hs fun j u x => hk j (by omega) (by have := c.1; omega), d⟩
theorem TermsAt.below {w w' : World} {N : Nat} {v : Value} {ts : List Tm} (h : TermsAt w N v ts) (hb : Below w.heap.size w w') : TermsAt w' N v ts := h.keep hb.size fun i _ hi => hb.block i hi
theorem TermsAt.at {w : World} {N : Nat} {v : Value} {ts : List Tm} (h : TermsAt w N v ts) :
    ∃ o cap, v = .slice o ts.length cap ∧ ts.length ≤ cap ∧ ∀ i, (hi : i < ts.length) → ∃ g b, o = some ⟨g, 0, none⟩ ∧ w.cell? ⟨g, i, none⟩ = some (.pointer (some ⟨b, 0, none⟩)) ∧ Lies w N ts[i] b := by
  obtain ⟨bs, h1, ⟨h2, h3⟩, h4⟩ := h
  rcases h3 with ⟨rfl, h5⟩ | ⟨g, cap, cur, rfl, q2, q3, q4, q5, q6, q7⟩
  · refine ⟨none, 0, by rw [← h1, h5], by omega, fun i hi => by omega⟩
  · refine ⟨_, cap, by rw [h1], by omega, fun i hi => ⟨g, bs[i]'(by omega), rfl, ?_, ?_⟩⟩
    · rw [blk_cell q3 i, ← Array.getElem?_toList, ← List.getElem?_take_of_lt (show i < bs.length * 1 from by omega), q7, List.getElem?_map, List.getElem?_eq_getElem (by omega)]; rfl
    · obtain ⟨lo, hi', a, c, d⟩ := h4 i hi (by omega)
      exact c.lies.mono a
theorem TermsAt.empty (w : World) (N : Nat) (hN : N ≤ w.heap.size) : TermsAt (w.alloc (.cells #[] 50)) N (.slice (some ⟨w.heap.size, 0, none⟩) 0 0) [] :=
  ⟨[], rfl, ⟨rfl, .inr ⟨w.heap.size, 0, _, rfl, hN, heap_alloc_new w _, Nat.le_refl _, by unfold maxLen; omega, rfl, rfl⟩⟩, fun i hi => absurd hi (Nat.not_lt_zero _)⟩
theorem TermsAt.own {w : World} {N : Nat} {v : Value} {ts : List Tm} (h : TermsAt w N v ts) {k : Nat} (hk : v.ownBlock = some k) : N ≤ k ∧ k < w.heap.size := by
  obtain ⟨bs, _, ⟨_, h3⟩, _⟩ := h
  rcases h3 with ⟨rfl, _⟩ | ⟨g, cap, cur, rfl, q2, q3, _⟩
  · simp [Value.ownBlock] at hk
  · have : g = k := by simpa [Value.ownBlock] using hk
    subst this
    exact ⟨q2, blk_lt q3⟩
theorem Try.infoTerm : (Try.prog.info? 50).map (fun i => (i.zero.map (fun z => z.cells.size), i.size, i.bytes)) = some (some 1, 1, 8) := by kernel_rfl
theorem run_append_term {w : World} {N : Nat} {ty : TypeId} {v : Value} {ts : List Tm} (h : TermsAt w N v ts) (hN : N ≤ w.heap.size) (hl : ts.length ≤ 1000) {g b lo hi : Nat} {t : Tm} (hg : w.heap[g]? = some (.cells #[.pointer (some ⟨b, 0, none⟩)] 50 (0, 0))) (hlo : N ≤ lo) (ht : LiesIn w lo hi t b)
    (hnt : ∀ k, v.ownBlock = some k → k < lo) :
    ∃ v' w', (Builtin.append_ #[58, 58] ty #[v, .slice (some ⟨g, 0, none⟩) 1 1]).run Try.prog w = .ok v' w' ∧ TermsAt w' N v' (ts ++ [t]) ∧ w.grownBy w' v.ownBlock := by
  have hi0 := Try.infoTerm
  cases hinf : Try.prog.info? 50 with
  | none => rw [hinf] at hi0; cases hi0
  | some i =>
    rw [hinf] at hi0
    simp only [Option.map_some, Option.some.injEq, Prod.mk.injEq, Option.map_eq_some_iff] at hi0
    obtain ⟨⟨z, hz, hz2⟩, hs, hb⟩ := hi0
    have hT : Try.prog.underlying 58 = some (.slice 50) := Try.underlying58
    obtain ⟨bs, h1, h2, h4⟩ := h
    obtain ⟨v', w', e1, e2, e3, _, e5⟩ := run_append_own_at (P := Try.prog) w N 58 ty 50 i z 1 8 hT hinf hz hs hb hz2 (by omega) v bs.length _ h2 ⟨g, 0, none⟩ 1 1 [.pointer (some ⟨b, 0, none⟩)] rfl (World.news_of_block hg) (by simp [Value.oneCell']) (by unfold maxLen; omega) (by omega) hN
    have far : ∀ lo hi (u : Tm) (x : Nat), LiesIn w lo hi u x → (∀ k, v.ownBlock = some k → ¬ (lo ≤ k ∧ k < hi)) → LiesIn w' lo hi u x ∧ ∀ k, v'.ownBlock = some k → ¬ (lo ≤ k ∧ k < hi) := fun lo hi u x hu hd => by
      refine ⟨hu.keep e3.size fun j a c => e3.block j (by have := hu.1; omega) fun e => hd j e.symm ⟨a, c⟩, fun k hk => ?_⟩
      rcases e5 with e5 | e5
      · exact hd k (e5 ▸ hk)
      · rw [e5] at hk
        injection hk with hk
        have := hu.1
        omega
    refine ⟨v', w', e1, ⟨bs ++ [b], by simp [h1], ?_, fun j hj hj2 => ?_⟩, e3⟩
    · rw [List.length_append, List.map_append]; exact e2
    · by_cases hjl : j < ts.length
      · obtain ⟨lo', hi', a, c, d⟩ := h4 j hjl (by omega)
        obtain ⟨c', d'⟩ := far lo' hi' _ _ c d
        refine ⟨lo', hi', a, ?_, d'⟩
        rw [List.getElem_append_left hjl, List.getElem_append_left (by omega)]
        exact c'
      · have hje : j = ts.length := by simp at hj; omega
        subst hje
        obtain ⟨c', d'⟩ := far lo hi t b ht fun k hk hh => by have := hnt k hk; omega
        refine ⟨lo, hi, hlo, ?_, d'⟩
        rw [List.getElem_append_right (Nat.le_refl _), List.getElem_append_right (by omega)]
        simp only [h1, Nat.sub_self, List.getElem_cons_zero]
        exact c'
theorem grown_below2 {W1 w w' : World} {N : Nat} {v : Value} {ts : List Tm} (h : TermsAt W1 N v ts) (hN : N ≤ w.heap.size) (hg : w.grownBy w' v.ownBlock) : Below N w w' := by
  refine ⟨hg.os, hg.tape, hg.output, hg.size, fun i hi => hg.block i (by omega) fun e => ?_⟩
  have := h.own e.symm
  omega

section
theorem idxP (tb : Nat) (wb : World) (N : Nat) (v : Value) (ts : List Tm) (hL : ts.length ≤ 1000) (hv : TermsAt wb N v ts) (p : Tm → Bool)
    (step : ∀ (u : Tm) (y : Nat) (w : World), u ∈ ts → Below wb.heap.size wb w → Lies w N u y → Calls Try.prog 84 #[.pointer (some ⟨y, 0, none⟩), .pointer (some ⟨tb, 0, none⟩)] w fun e w' => e = .returned (.bool (p u)) ∧ Below w.heap.size w w') :
    Calls Try.prog 116 #[v, .func (.func 84) #[] #[.pointer (some ⟨tb, 0, none⟩)]] wb fun e w' => ∃ z : Int, e = .returned (.int .i64 z) ∧ decide (0 ≤ z) = ts.any p ∧ Below wb.heap.size wb w' := by
  obtain ⟨o, cap, rfl, hcap, hk⟩ := hv.at
  have HK := Lib.hid hk
  have HS := Lib.hid step
  clear hk step hv
  go_enter Try.func116, Try.ntmps116
  go_wp2_with fail
  go_loopw [8] (fun i wr => ∃ k : Nat, k ≤ ts.length ∧ i = .int .i64 k ∧ (ts.drop k).any p = ts.any p ∧ Below wb.heap.size wb wr) (fun i _ => ts.length - (intOf i).toNat)
  case atStart => exact ⟨0, Nat.zero_le _, rfl, rfl, Below.refl _ _⟩
  case round =>
    obtain ⟨k, hk, rfl, hany, hbr⟩ := hrel
    have HA := Lib.hid hany
    have HB := Lib.hid hbr
    clear hany
    by_cases hlt : k < ts.length
    · obtain ⟨g, y, rfl, e0, hly⟩ := HK.out k hlt
      have c0 := (hbr.cell (World.block_lt_of_cell? wb _ e0)).trans e0
      have HLY := Lib.hid (hly.below hbr)
      have HMEM : Hid (ts[k] ∈ ts) := List.getElem_mem hlt
      obtain ⟨x, hx⟩ : ∃ x, x = ts[k] := ⟨_, rfl⟩
      rw [← hx] at HLY HMEM
      have HD : Hid ((ts.drop k).any p = (p x || (ts.drop (k + 1)).any p)) := by rw [hx]; exact drop_any ts p k hlt
      clear e0 hx hbr hly
      go_wp2_with fail
      refine (HS.out x y wr HMEM.out HB.out HLY.out).mono ?_
      rintro e w2 ⟨rfl, hb2⟩
      have HB2 := Lib.hid (below_then HB.out HB.out.size hb2)
      clear hb2 c0
      rcases hp : p x with _ | _
      · have HA2 : Hid ((ts.drop (k + 1)).any p = ts.any p) := by rw [Hid, ← HA.out, HD.out, hp]; rfl
        clear hp
        go_wp2_with fail
        go_roundw
        case rel => exact ⟨k + 1, by omega, by go_num, HA2.out, HB2.out⟩
        case measure => exact meas4 _ _ hlt
      · have HA2 : Hid (ts.any p = true) := by rw [Hid, ← HA.out, HD.out, hp]; rfl
        clear hp
        go_wp2_with fail
        go_ret
        exact ⟨_, rfl, by rw [HA2.out]; exact decide_eq_true (by omega), HB2.out⟩
    · have HF : Hid (ts.any p = false) := by rw [Hid, ← HA.out, List.drop_eq_nil_of_le (by omega)]; rfl
      go_wp2_with fail
      go_ret
      exact ⟨-1, rfl, by rw [HF.out]; rfl, HB.out⟩
theorem hasP (tb : Nat) (wb : World) (N : Nat) (v : Value) (ts : List Tm) (hL : ts.length ≤ 1000) (hv : TermsAt wb N v ts) (p : Tm → Bool)
    (step : ∀ (u : Tm) (y : Nat) (w : World), u ∈ ts → Below wb.heap.size wb w → Lies w N u y → Calls Try.prog 84 #[.pointer (some ⟨y, 0, none⟩), .pointer (some ⟨tb, 0, none⟩)] w fun e w' => e = .returned (.bool (p u)) ∧ Below w.heap.size w w') :
    Calls Try.prog 83 #[v, .func (.func 84) #[] #[.pointer (some ⟨tb, 0, none⟩)]] wb fun e w' => e = .returned (.bool (ts.any p)) ∧ Below wb.heap.size wb w' := by
  have HC := Lib.hid (idxP tb wb N v ts hL hv p step)
  clear step hv
  go_enter Try.func83, Try.ntmps83
  go_wp2_with fail
  refine HC.out.mono ?_
  rintro e w2 ⟨z, rfl, hz, hb⟩
  have HZ := Lib.hid hz
  clear hz
  go_wp2_with fail
  go_ret
  exact ⟨by rw [← HZ.out]; rfl, hb⟩
end
theorem pair_calls (t u : Tm) (hs : t.size ≤ 100) (hs2 : u.size ≤ 100) (hw : Wf isLet t) (hw2 : Wf isLet u) (w : World) (N M x y tb : Nat) (hl : Lies w N t x) (hl2 : Lies w M u y) (hc : w.cell? ⟨tb, 0, none⟩ = some (.pointer (some ⟨x, 0, none⟩))) :
    Calls Try.prog 84 #[.pointer (some ⟨y, 0, none⟩), .pointer (some ⟨tb, 0, none⟩)] w fun e w' => e = .returned (.bool (meetB t u)) ∧ Below w.heap.size w w' := by
  have HC := Lib.hid (canMeet_calls t u hs hs2 hw hw2 w N M x y hl hl2)
  clear hl hl2
  go_enter Try.func84, Try.ntmps84
  go_wp2_with fail
  refine HC.out.mono ?_
  rintro e w2 ⟨rfl, hb⟩
  go_wp2_with fail
  go_ret
  exact ⟨rfl, hb⟩

end Go.Proofs.Ytfcadppidgkoaaa
namespace Go.Proofs.Ytfcadppidgkoaaa
open Go.RowKit Go.ChangeShapes Go.WideShapes Go.Deep Go.Joins Go.Proofs.YtfcadppidgkoaaaW.PrintWords
set_option linter.unusedVariables false
set_option linter.unusedSimpArgs false

section
variable {H : Type} {enc : TypeId × Value → H} {P : Program} {w : World} {base : Nat} {held : Bool}
theorem open_row {t e : TypeId} {fuel : Nat} {v : Value} {x : DataW H × List MemPlace} (ht : P.underlying t = some (.slice e)) (he : P.underlying e = some .string) (hc : P.cellsOf e = 1)
    (h : DataW.trod enc P w base (fun _ => true) held fuel t [v] = some x) :
    ∃ A c l, v = .slice A l.length c ∧ l.length ≤ c ∧ l.length ≤ 9223372036854775807 ∧ Kd.C Kd.string w A l.length l ∧ ∀ s, s ∈ l → s.size ≤ 9223372036854775807 := by
  rcases open_strings ht he hc h with ⟨h0, _⟩ | ⟨a, len, cap, ss, h0, _, hl, hm, hlen, _, hcell, hsz⟩
  · injection h0 with h1 _
    exact ⟨none, 0, [], h1, Nat.le_refl _, by simp, ⟨rfl, by simp, fun h => absurd h (Nat.lt_irrefl _)⟩, fun s hs => by cases hs⟩
  · injection h0 with h1 _
    simp only [if_true] at hlen
    have hml : maxLen = 9223372036854775807 := rfl
    have hll : (ss.take len).length = len := by rw [List.length_take]; omega
    refine ⟨some a, cap, ss.take len, by rw [hll]; exact h1, by rw [hll]; exact hl, by omega, ⟨rfl, by omega, fun _ => ⟨a, rfl, fun j p hj => ⟨[.string p], rfl, rfl, fun i u hu => ?_⟩⟩⟩, fun s hs => by rw [← hml]; exact hsz s (List.mem_of_mem_take hs)⟩
    have hi0 : i = 0 := by
      obtain ⟨hi, _⟩ := List.getElem?_eq_some_iff.mp hu
      simpa using hi
    subst hi0
    simp only [List.getElem?_cons_zero, Option.some.injEq] at hu
    subst hu
    have hjl : j < len := by
      obtain ⟨hi, _⟩ := List.getElem?_eq_some_iff.mp hj
      omega
    have e := hcell j (by omega)
    rw [List.getElem?_take_of_lt hjl] at hj
    have e2 : ss.getD j ByteArray.empty = p := by rw [List.getD_eq_getElem?_getD, hj]; rfl
    rw [e2] at e
    simpa [show (Kd.string).sz = 1 from rfl] using e
theorem open_mac {r : Reach} {b0 : Nat} {t e : TypeId} {f0 f1 f2 : Field} {v : Value} {d : DataW H} {p : List MemPlace} (hs : P.underlying t = some (.struct #[f0, f1, f2])) (hone : oneCellFields P #[f0, f1, f2] = true) (hC : P.cellsOf t = 3)
    (h0 : P.underlying f0.type = some .string) (h1 : P.underlying f1.type = some (.slice e)) (h2 : P.underlying f2.type = some (.slice e)) (he : P.underlying e = some .string) (hc : P.cellsOf e = 1)
    (hv : Value.okWide P w r b0 t v) (h : DataW.Trod enc P w base (fun _ => true) held t v d p) :
    ∃ own A1 c1 l1 A2 c2 l2, v = .agg #[.string own, .slice A1 l1.length c1, .slice A2 l2.length c2] ∧ own.size ≤ 9223372036854775807 ∧
      l1.length ≤ c1 ∧ l1.length ≤ 9223372036854775807 ∧ Kd.C Kd.string w A1 l1.length l1 ∧ (∀ s, s ∈ l1 → s.size ≤ 9223372036854775807) ∧
      l2.length ≤ c2 ∧ l2.length ≤ 9223372036854775807 ∧ Kd.C Kd.string w A2 l2.length l2 ∧ ∀ s, s ∈ l2 → s.size ≤ 9223372036854775807 := by
  obtain ⟨v0, v1, v2, y0, y1, y2, n, rfl, _, _, q0, q1, q2⟩ := open_agg3 hs hone hC hv h
  obtain ⟨own, e0, _, hz⟩ := DataW.trod_string h0 q0
  injection e0 with e0 _
  obtain ⟨A1, c1, l1, rfl, a1, a2, a3, a4⟩ := open_row h1 he hc q1
  obtain ⟨A2, c2, l2, rfl, b1, b2, b3, b4⟩ := open_row h2 he hc q2
  exact ⟨own, A1, c1, l1, A2, c2, l2, by rw [e0], hz, a1, a2, a3, a4, b1, b2, b3, b4⟩
end
end Go.Proofs.Ytfcadppidgkoaaa
