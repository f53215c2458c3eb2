-- Several texts of this claim in one.
import Derived.Test.YtjgfgjhaghbehaaGreatSortE
import Derived.Test.YtjgfgjhaghbehaaGreatSortB
import Derived.Test.YtjgfgjhaghbehaaGreatSortA
/- The closure of CycleNames: whether one comes to a sort that carries itself. And letters of a text that hold something. -/
namespace Go.Proofs.YtjgfgjhaghbehaaGreat
open Go.RowKit Go.Proofs.YtjgfgjhaghbehaaGreatW.PrintWords Go.Proofs.YtjgfgjhaghbehaaGreatW.PrintLast Go.Proofs.YtjgfgjhaghbehaaGreatW.PrintMore
set_option linter.unusedVariables false
set_option linter.unusedSimpArgs false

theorem sort_filter (p h : UInt8 → Bool) : sortL (fun c => decide (c ∈ sortL p) && h c) = (sortL p).filter h := by
  show (letsFrom 0).filter _ = ((letsFrom 0).filter p).filter h
  rw [List.filter_filter]
  refine List.filter_congr fun c hc => ?_
  have : decide (c ∈ sortL p) = p c := by
    rw [Bool.eq_iff_iff, decide_eq_true_eq]
    show c ∈ (letsFrom 0).filter p ↔ _
    rw [List.mem_filter]
    exact ⟨fun h => h.2, fun h => ⟨hc, h⟩⟩
  rw [this, Bool.and_comm]
theorem filter_take (L : List UInt8) (h : UInt8 → Bool) {j : Nat} (hj : j < L.length) : (L.take (j + 1)).filter h = (L.take j).filter h ++ (if h L[j] = true then [L[j]] else []) := by
  rw [List.take_succ_eq_append_getElem hj, List.filter_append]
  congr 1
  simp only [List.filter_cons, List.filter_nil]
structure SFB (w0 W : World) (g m N : Nat) (v1 v2 : Value) (s : Srt) (L : List UInt8) (bx : Nat) : Prop where
  sf : SF w0 W g m N v1 v2 s L
  box : ∃ t, W.heap[bx]? = some (.cells #[.pointer (some ⟨g, 0, none⟩)] t (0, 0))
section
variable {w0 W W' : World} {g m N bx : Nat} {v1 v2 : Value} {s : Srt} {L : List UInt8}
theorem SFB.later (h : SFB w0 W g m N v1 v2 s L bx) (hb : Below W.heap.size W W') : SFB w0 W' g m N v1 v2 s L bx :=
  ⟨h.sf.later hb, by obtain ⟨t, h⟩ := h.box; exact ⟨t, blk_below h hb⟩⟩
theorem SFB.drewN (h : SFB w0 W g m N v1 v2 s L bx) (k : Nat) : SFB w0 (W.drewN k) g m N v1 v2 s L bx := ⟨h.sf.drewN k, h.box⟩
theorem SFB.drew (h : SFB w0 W g m N v1 v2 s L bx) : SFB w0 W.drew g m N v1 v2 s L bx := h.drewN 1
theorem SFB.far {W3 : World} {bo : Nat} (h : SFB w0 W g m N v1 v2 s L bx) (k : SFB w0 W3 g m N v1 v2 s L bx) (hb : W3.heap.size ≤ bo) (i : Nat) (x : Value) : SFB w0 (W.setCell ⟨bo, i, none⟩ x) g m N v1 v2 s L bx := by
  obtain ⟨⟨a, b, c⟩, t, d⟩ := h
  obtain ⟨⟨a3, b3, c3⟩, t3, d3⟩ := k
  have h1 := a3.gl
  have h2 := b3.lt
  have h3 := blk_lt d3
  have h4 := c3.size
  have hf : ∀ j, j ≠ bo → (W.setCell ⟨bo, i, none⟩ x).heap[j]? = W.heap[j]? := fun j hj => Below.heap_setCell W _ _ j (by simpa using hj)
  exact ⟨⟨a.far (by omega) (fun q => by have := (a3.r1.own q).2; omega) (fun q => by have := (a3.r2.own q).2; omega) _ _, b.keep (hf _ (by omega)), c.setCell (by show w0.heap.size ≤ bo; omega) _⟩, t, (hf _ (by omega)).trans d⟩
theorem SFB.cell (h : SFB w0 W g m N v1 v2 s L bx) : W.cell? ⟨bx, 0, none⟩ = some (.pointer (some ⟨g, 0, none⟩)) := by obtain ⟨t, h⟩ := h.box; exact blk_cell h 0
end
end Go.Proofs.YtjgfgjhaghbehaaGreat
/- The walk of the sorter's named with a closure: the free names of whose sorts the closure says yes. (Written by gen_named.py.) -/
namespace Go.Proofs.YtjgfgjhaghbehaaGreat
open Go.RowKit Go.Proofs.YtjgfgjhaghbehaaGreatW.PrintWords Go.Proofs.YtjgfgjhaghbehaaGreatW.PrintMore Go.Maps
set_option linter.unusedVariables false
set_option linter.unusedSimpArgs false

theorem FreeAt.look2CarriedBy {w : World} {m k : Nat} {L L' : List UInt8} (h : FreeAt w m k L L') (c : UInt8) (z : Int) (hz : vl c = z) :
    (c ∈ L' → (Instr.lookup 48 (.map (some m)) (.int .u8 z) true).run Tryz.prog w = .ok (.tuple #[.int .i64 ((Srt.place L c : Nat) : Int), .bool true]) w) ∧
    (c ∉ L' → (Instr.lookup 48 (.map (some m)) (.int .u8 z) true).run Tryz.prog w = .ok (.tuple #[.int .i64 0, .bool false]) w) := by
  obtain ⟨D, hown, hD⟩ := h
  have hr := vl_range c
  have hwf : (Lit.int .u8 z).wf = true := by simp [Lit.wf, show IntKind.u8.min = 0 from rfl, show IntKind.u8.max = 255 from rfl]; omega
  obtain ⟨v, ps, hrun, hv⟩ := hown.look_ok (int_keyed Tryz.underlying5) Tryz.underlying48 (show (zeroValue 3).run Tryz.prog w = .ok (.int .i64 0) w from by kernel_rfl) (zd := .lit (.int .i64 0)) (zp := []) (plainElem_int Tryz.underlying3 (by decide)) (keyOf_int_mk Tryz.underlying5 hwf)
  obtain ⟨h1, h2⟩ := hD c
  rw [hz] at h1 h2
  rw [h1] at hrun
  obtain ⟨x, rfl, hx, _⟩ := plainElem_int_inv Tryz.underlying3 hv
  have hx1 := congrArg Prod.fst hx
  simp only at hx1
  refine ⟨fun hc => ?_, fun hc => ?_⟩
  · rw [h2 hc] at hx1
    simp only [DataW.lit.injEq, Lit.int.injEq, true_and] at hx1
    rw [hrun, ← hx1, decide_eq_true hc]
  · rw [decide_eq_false hc] at h1 hrun
    rw [atKey_of_not_has h1] at hx1
    simp only [DataW.lit.injEq, Lit.int.injEq, true_and] at hx1
    rw [hrun, ← hx1]
attribute [local irreducible] Utf8.encode
set_option maxHeartbeats 4000000 in
set_option maxRecDepth 100000 in
theorem namedCarriedBy_calls (hold : Nat → Bool) (p1 p2 : Value) {w : World} {N g m : Nat} {v1 v2 : Value} {s : Srt} {L : List UInt8} (h : SrAt w N g v1 v2 [.map (some m)] s) (hm : FreeAt w m 26 L L)
    (hh : ∀ c, c ∈ L → ∀ j, Calls Tryz.prog 29 #[.int .i64 ((Srt.place L c : Nat) : Int), p1, p2] (w.drewN j) fun e w' => e = .returned (.bool (hold (Srt.place L c))) ∧ ∃ k, w' = w.drewN k) :
    Calls Tryz.prog 28 #[.pointer (some ⟨g, 0, none⟩), .func (.func 29) #[] #[p1, p2]] w fun e w' => e = .returned (.string (B (sortL fun c => decide (c ∈ L) && hold (Srt.place L c)))) ∧ ∃ k, w' = w.drewN k := by
  have c2 := h.c2
  have HM := Lib.hid hm
  have HH := Lib.hid hh
  clear h hm hh
  obtain ⟨p, hp⟩ : ∃ p : UInt8 → Bool, p = fun c => decide (c ∈ L) && hold (Srt.place L c) := ⟨_, rfl⟩
  have HP : Hid (∀ c, p c = (decide (c ∈ L) && hold (Srt.place L c))) := fun c => by rw [hp]
  rw [← hp]
  clear hp
  go_enter Tryz.func28, Tryz.ntmps28
  go_wp2_with fail
  go_loopw [5, 6] (fun o c wr => ∃ i : Nat, i ≤ 26 ∧ c = .int .u8 (97 + i) ∧ o = .string (B (sortTo p i)) ∧ ∃ k, wr = w.drewN k) (fun _ c _ => 26 - (intOf c - 97).toNat)
  case atStart => exact ⟨0, by omega, rfl, rfl, 0, rfl⟩
  case round =>
    obtain ⟨i, hi, rfl, rfl, k, rfl⟩ := hrel
    by_cases hlt : i < 26
    · have HS := Lib.hid (sortTo_succ p i)
      have hlv : vl (letAt i) = 97 + (i : Nat) := letAt_vl (by omega)
      have hlo := FreeAt.look2CarriedBy (w := w.drewN k) (HM.out.keep rfl) (letAt i) _ hlv
      have d2 : (w.drewN k).cell? ⟨g, 2, none⟩ = some (.map (some m)) := c2
      have henc : Utf8.encode (97 + (i : Int)) = B [letAt i] := by
        have := enc_small (let_lt (isLet_iff.mpr ⟨i, hlt, rfl⟩))
        rw [letAt_vl (by omega)] at this; exact this
      have happ : B (sortTo p i) ++ B [letAt i] = B (sortTo p i ++ [letAt i]) := B_append _ _
      have hsz : (B (sortTo p i)).size ≤ 26 := by rw [B_size]; have := sortTo_len p i; omega
      have hsz1 : (B [letAt i]).size = 1 := by rw [B_size]; rfl
      by_cases hc : letAt i ∈ L
      · have hrun := hlo.1 hc
        have hcall := HH.out (letAt i) hc k
        have HPi : Hid (p (letAt i) = hold (Srt.place L (letAt i))) := by rw [Hid, HP.out, decide_eq_true hc]; rfl
        clear hlo hlv hc
        rcases hq : hold (Srt.place L (letAt i)) with _ | _
        · have HF2 : Hid (sortTo p (i + 1) = sortTo p i) := by rw [Hid, HS.out, HPi.out, hq]; simp
          rw [hq] at hcall
          clear hq
          go_wp2_with fail
          refine hcall.mono ?_
          rintro e w3 ⟨rfl, k3, rfl⟩
          clear hcall hrun d2
          go_wp2_with fail
          go_roundw
          case rel => exact ⟨i + 1, by omega, by go_num, by rw [HF2.out], k3, rfl⟩
          case measure => simp [intOf]; omega
        · have HF2 : Hid (sortTo p (i + 1) = sortTo p i ++ [letAt i]) := by rw [Hid, HS.out, HPi.out, hq]; rfl
          rw [hq] at hcall
          clear hq
          go_wp2_with fail
          refine hcall.mono ?_
          rintro e w3 ⟨rfl, k3, rfl⟩
          clear hcall hrun d2
          go_wp2_with fail
          go_roundw
          case rel => exact ⟨i + 1, by omega, by go_num, by rw [HF2.out], k3, rfl⟩
          case measure => simp [intOf]; omega
      · have hrun := hlo.2 hc
        have HF2 : Hid (sortTo p (i + 1) = sortTo p i) := by rw [Hid, HS.out, HP.out, decide_eq_false hc]; simp
        clear hlo hlv hc
        go_wp2_with fail
        go_roundw
        case rel => exact ⟨i + 1, by omega, by go_num, by rw [HF2.out], k, rfl⟩
        case measure => simp [intOf]; omega
    · have HF2 : Hid (sortTo p i = sortL p) := by
        show _ = _
        rw [show i = 26 from by omega, sortTo_all]
      go_wp2_with fail
      go_ret
      exact ⟨by rw [HF2.out]; rfl, _, rfl⟩
end Go.Proofs.YtjgfgjhaghbehaaGreat
/- The law FnExactCarriedBy, walked: the program's answer is the reference's. (Written by gen_endcar.py.) -/
namespace Go.Proofs.YtjgfgjhaghbehaaGreat.PFnExactCarriedBy
open Go.RowKit Go.Proofs.YtjgfgjhaghbehaaGreatW.PrintWords Go.Proofs.YtjgfgjhaghbehaaGreatW.PrintLast Go.Proofs.YtjgfgjhaghbehaaGreatW.PrintMore Go.Proofs.YtjgfgjhaghbehaaGreat.Pterm Go.Proofs.YtjgfgjhaghbehaaGreat.PsoPlace Go.Proofs.YtjgfgjhaghbehaaGreat.Rf
set_option linter.unusedVariables false
set_option linter.unusedSimpArgs false

theorem nat_ne (n : Nat) : (((n : Nat) : Int) == (-1 : Int)) = false := by rw [beq_eq_false_iff_ne]; omega
theorem meas {n j : Nat} (h : j < n) (hw : wrap64 ((j : Int) + 1) = (j : Int) + 1) : n - (intOf (.int .i64 (wrap64 ((j : Int) + 1)))).toNat < n - (intOf (.int .i64 (j : Int))).toNat := by
  rw [hw]; simp only [intOf]; omega
def hold (s : Srt) (L : List UInt8) (x : Nat) (c : UInt8) : Bool := ((s.rt (Srt.place L c) : Nat) : Int) == s.nxt x
def val (p a : List UInt8) : List UInt8 × Bool := if withB p [a] = true then ((sortL (parsed p).1.fr).filter (hold (Srt.of (parsed p).1) (sortL (parsed p).1.fr) (placeV p a)), true) else ([], false)
def carc_.T1 : Bool × List (List Nat × List Nat) := (true, [([], []), ([], []), ([0, 1], [0, 1]), ([], []), ([2, 3], [2, 3]), ([4, 2, 0, 1, 2, 3, 4], [4])])
def carc_.B1 : List Nat := [0, 0, 3, 0, 15, 31]
theorem carc_.tab1 : rtab .any (opsOf Tryz.f29 1) = carc_.T1 := by kernel_rfl
theorem carc_.bits1 : waitsOk carc_.T1.2 carc_.B1 = true := by kernel_rfl
def carp_.T5 : Bool × List (List Nat × List Nat) := (true, [([], []), ([], []), ([1], [1]), ([2], [2]), ([3], [3]), ([], []), ([5], [5]), ([4, 6], [4, 6]), ([0, 7], [0, 7]), ([], []), ([9, 8, 8, 0, 1, 2, 3, 4, 5, 6, 7, 8, 9], [8, 9])])
def carp_.B5 : List Nat := [0, 0, 2, 6, 14, 0, 32, 126, 255, 0, 1023]
theorem carp_.tab5 : rtab .any (opsOf Tryz.f10 5) = carp_.T5 := by kernel_rfl
theorem carp_.bits5 : waitsOk carp_.T5.2 carp_.B5 = true := by kernel_rfl
def carr_.T5 : Bool × List (List Nat × List Nat) := (true, [([], []), ([0], [0]), ([1], [1]), ([2], [2]), ([], []), ([], []), ([4, 5], [4, 5]), ([3, 6], [3, 6]), ([7], [7]), ([8, 6, 0, 1, 2, 3, 4, 5, 6, 7, 8], [8])])
def carr_.B5 : List Nat := [0, 1, 3, 7, 0, 0, 48, 127, 255, 511]
theorem carr_.tab5 : rtab .any (opsOf Tryz.f11 5) = carr_.T5 := by kernel_rfl
theorem carr_.bits5 : waitsOk carr_.T5.2 carr_.B5 = true := by kernel_rfl
set_option maxHeartbeats 4000000 in
set_option maxRecDepth 100000 in
theorem clo_calls {w : World} {N g bx bo : Nat} {v1 v2 : Value} {ex : List Value} {s : Srt} {own : Int} (h : SrAt w N g v1 v2 ex s) (ho : s.Ok) {x : Nat} (hx : x < s.n) (hn : s.n ≤ 1000000) (hb : w.cell? ⟨bx, 0, none⟩ = some (.pointer (some ⟨g, 0, none⟩))) (ho2 : w.cell? ⟨bo, 0, none⟩ = some (.int .i64 own)) :
    Calls Tryz.prog 29 #[.int .i64 (x : Nat), .pointer (some ⟨bx, 0, none⟩), .pointer (some ⟨bo, 0, none⟩)] w fun e w' => e = .returned (.bool (((s.rt x : Nat) : Int) == own)) ∧ ∃ m, w' = w.drewN m := by
  have HO := Lib.hid ho
  go_enter Tryz.func29, Tryz.ntmps29
  go_wp2_with fail
  refine start_ (n := 6) (S := fun w' => w'.cell? ⟨bx, 0, none⟩ = some (.pointer (some ⟨g, 0, none⟩)) ∧ w'.cell? ⟨bo, 0, none⟩ = some (.int .i64 own)) (ds := []) #[false, false, false, false, false, false] (by kernel_rfl) rfl rfl ⟨hb, ho2⟩ (fun hHeld => ?_)
  refine with_tabW carc_.tab1 carc_.bits1 (fun HT_ HW_ => ?_)
  have T : SrAt w.drew N g v1 v2 ex s ∧ w.drew.cell? ⟨bx, 0, none⟩ = some (.pointer (some ⟨g, 0, none⟩)) ∧ w.drew.cell? ⟨bo, 0, none⟩ = some (.int .i64 own) := And.intro (h.drewN 1) (And.intro hb ho2)
  generalize hW3 : w.drew = W3 at T hHeld ⊢
  refine pure_ (i := 1) (N := some 6) (v := ?_) (a' := ?_) #[false, true, false, false, false, false] rfl rfl (any_of HT_.out (by kernel_rfl)) (fun _ _ _ h => h) (Or.inl ⟨by rfl, ?_⟩) ?_ ?_
  rotate_left; (intro w'; go_simp; with_reducible rfl); rotate_left; (simp only [Act.put, List.setIfInBounds_toArray, List.set_cons_zero, List.set_cons_succ, i64_w, i32_w]; rfl)
  refine take_ (i := 0) (N := some 5) (v := ?_) (a' := ?_) #[true, true, false, false, false, false] rfl rfl (take_ofW HT_.out HW_.out (by kernel_rfl)) (fun _ _ _ h => h) (Or.inl ⟨by rfl, ?_⟩) hHeld ?_ ?_
  rotate_left; (rintro w' ⟨s0, s1⟩; go_simp; with_reducible rfl); rotate_left; (simp only [Act.put, List.setIfInBounds_toArray, List.set_cons_zero, List.set_cons_succ, i64_w, i32_w]; rfl)
  refine take_ (i := 3) (N := some 8) (v := ?_) (a' := ?_) #[true, true, false, true, false, false] rfl rfl (take_ofW HT_.out HW_.out (by kernel_rfl)) (fun _ _ _ h => h) (Or.inl ⟨by rfl, ?_⟩) hHeld ?_ ?_
  rotate_left; (rintro w' ⟨s0, s1⟩; go_simp; with_reducible rfl); rotate_left; (simp only [Act.put, List.setIfInBounds_toArray, List.set_cons_zero, List.set_cons_succ, i64_w, i32_w]; rfl)
  refine one_ (i := 2) (N := some 7) #[true, true, true, true, false, false] rfl rfl (one_of HT_.out (by kernel_rfl)) (by decide) (fun K hK => ?_)
  refine goes_ Tryz.func30 (by kernel_rfl) rfl #[.pointer (some ⟨g, 0, none⟩), .int .i64 ((x : Nat) : Int)] (by rfl) rfl rfl (by simp only [List.map_toArray, List.map_cons, List.map_nil]; rfl) ?_
  with_reducible refine (root_calls T.1 HO.out hx hn).mono ?_
  rintro e W4 ⟨rfl, rfl⟩
  refine ⟨_, rfl, ?_⟩
  clear hHeld
  refine hK.out _ _ ⟨T.2.1, T.2.2⟩ (fun hHeld => ?_)
  clear hK K
  refine norm_ (a' := ?_) ?_ ?_
  rotate_left
  · show Act.put _ (some 7) _ = _
    simp only [Act.put, List.setIfInBounds_toArray, List.set_cons_zero, List.set_cons_succ, i64_w, i32_w]
    rfl
  refine pure_ (i := 4) (N := some 9) (v := ?_) (a' := ?_) #[true, true, true, true, true, false] rfl rfl (any_of HT_.out (by kernel_rfl)) (fun _ _ _ h => h) (Or.inl ⟨by rfl, ?_⟩) ?_ ?_
  rotate_left; (intro w'; go_simp; with_reducible rfl); rotate_left; (simp only [Act.put, List.setIfInBounds_toArray, List.set_cons_zero, List.set_cons_succ, i64_w, i32_w]; rfl)
  refine pure_ (i := 5) (N := some 4) (v := ?_) (a' := ?_) #[true, true, true, true, true, true] rfl rfl (any_of HT_.out (by kernel_rfl)) (fun _ _ _ h => h) (Or.inl ⟨by rfl, ?_⟩) ?_ ?_
  rotate_left; (intro w'; go_simp; with_reducible rfl); rotate_left; (simp only [Act.put, List.setIfInBounds_toArray, List.set_cons_zero, List.set_cons_succ, i64_w, i32_w]; rfl)
  refine done_ (done_of HT_.out (by kernel_rfl)) ?_
  go_wp2_with fail
  go_ret
  exact ⟨rfl, 1, hW3.symm⟩
set_option maxHeartbeats 4000000 in
set_option maxRecDepth 100000 in
theorem car_prog (p a : List UInt8) (w : World) (hp : p.length ≤ 140737488351232) (ha : a.length ≤ 140737488351232) :
    Calls Tryz.prog 10 #[.string (B p), .string (B a)] w fun e w' => e = .returned (.tuple #[.string (B (val p a).1), .bool (val p a).2]) ∧ Below w.heap.size w w' := by
  go_enter Tryz.func10, Tryz.ntmps10
  go_wp2_with fail
  have hT := words_new w [a] 9
  simp only [List.map_cons, List.map_nil] at hT
  have hb1 : Below w.heap.size w (w.alloc (.cells #[.string (B a)] 9)) := (Below.refl w.heap.size w).alloc (Nat.le_refl _) _
  generalize w.alloc (.cells #[.string (B a)] 9) = w1 at hT hb1 ⊢
  refine (withFree_calls p w.heap.size 1 [a] w1 hp hT (by simp) (fun x hx => by rw [List.mem_singleton.mp hx]; exact ha)).mono ?_
  rintro e w2 ⟨hb2, q, rfl, hq⟩
  have hb := below_then hb1 hb1.size hb2
  rcases hok : withB p [a] with _ | _
  · have hv : Hid (val p a = ([], false)) := by simp [Hid, val, hok]
    clear hok hq hT hb1 hb2
    go_wp2_with fail
    go_ret2
    exact ⟨by rw [hv.out]; rfl, hb⟩
  obtain ⟨b, rfl, hli⟩ := hq hok
  obtain ⟨hr, c, rfl, hc, hm, hpv, hpn⟩ := with_name hok
  have HSO := sortsOf_read hr hb (hli.mono hb1.size)
  have HO := Lib.hid (Srt.of_ok (read_good hr).2.2.1)
  have hv : Hid (val p [c] = (sortL (fun d => decide (d ∈ sortL (parsed p).1.fr) && (((Srt.of (parsed p).1).rt (Srt.place (sortL (parsed p).1.fr) d) : Nat) : Int) == (Srt.of (parsed p).1).nxt (Srt.place (sortL (parsed p).1.fr) c)), true)) := by
    rw [Hid]; unfold val; rw [hpv, if_pos hok, ← sort_filter]; rfl
  have hn : (Srt.of (parsed p).1).n ≤ 1000000 := by have := HO.out.2; have := (read_good hr).2.2.2; omega
  generalize sortL (parsed p).1.fr = L at hpn hv HO HSO hm
  generalize Srt.of (parsed p).1 = s at hpn hv HO HSO hn
  have HC := Lib.hid hm
  have hz : (B [c]).size = 1 := B_size [c]
  have hby := byte_of [c] 0 (by simp)
  clear hok hq hT hb1 hb2 hb hli hr hc hm hpv
  go_wp2_with fail
  refine HSO.mono ?_
  rintro e w3 ⟨g, m, N, v1, v2, rfl, T⟩
  obtain ⟨w4, hw4⟩ : ∃ w4, w4 = w3.alloc (.cells #[.pointer (some ⟨g, 0, none⟩)] 43) := ⟨_, rfl⟩
  obtain ⟨bx, hbx⟩ : ∃ bx, bx = w3.heap.size := ⟨_, rfl⟩
  have HT4 : Hid (SFB w w4 g m N v1 v2 s L bx) := by rw [hw4, hbx]; exact ⟨T.later ((Below.refl w3.heap.size w3).alloc (Nat.le_refl _) _), _, heap_alloc_new w3 _⟩
  have HW4 := Lib.hid hw4
  have HBX := Lib.hid hbx
  clear HSO T hw4 hbx
  go_upto_region 5 with fail
  rw [← HW4.out, ← HBX.out]
  clear HW4 HBX
  refine start_ (n := 11) (S := fun w' => w'.cell? ⟨bx, 0, none⟩ = some (.pointer (some ⟨g, 0, none⟩)) ∧ w'.cell? ⟨g, 2, none⟩ = some (.map (some m)) ∧ (Instr.lookup 48 (.map (some m)) (.int .u8 (vl c)) false).run Tryz.prog w' = .ok (.int .i64 ((Srt.place L c : Nat) : Int)) w') (ds := [10]) #[false, false, false, false, false, false, false, false, false, false, false] (by kernel_rfl) rfl rfl ⟨HT4.out.drew.cell, HT4.out.drew.sf.sr.c2, HT4.out.drew.sf.look HC.out⟩ (fun hHeld => ?_)
  refine with_tabW carp_.tab5 carp_.bits5 (fun HT_ HW_ => ?_)
  have T := HT4.out.drew
  generalize w4.drew = W3 at T hHeld ⊢
  obtain ⟨bo, hz⟩ : ∃ bo, W3.heap.size = bo := ⟨_, rfl⟩
  refine pure_ (i := 5) (N := some 26) (v := ?_) (a' := ?_) #[false, false, false, false, false, true, false, false, false, false, false] rfl rfl (any_of HT_.out (by kernel_rfl)) (fun _ _ _ h => h) (Or.inl ⟨by rfl, ?_⟩) ?_ ?_
  rotate_left; (intro w'; go_simp; with_reducible rfl); rotate_left; (simp only [Act.put, List.setIfInBounds_toArray, List.set_cons_zero, List.set_cons_succ, i64_w, i32_w]; rfl)
  refine take_ (i := 0) (N := some 21) (v := ?_) (a' := ?_) #[true, false, false, false, false, true, false, false, false, false, false] rfl rfl (take_ofW HT_.out HW_.out (by kernel_rfl)) (fun _ _ _ h => h) (Or.inl ⟨by rfl, ?_⟩) hHeld ?_ ?_
  rotate_left; (rintro w' ⟨s0, s1, s2⟩; go_simp; with_reducible rfl); rotate_left; (simp only [Act.put, List.setIfInBounds_toArray, List.set_cons_zero, List.set_cons_succ, i64_w, i32_w]; rfl)
  refine take_ (i := 1) (N := some 22) (v := ?_) (a' := ?_) #[true, true, false, false, false, true, false, false, false, false, false] rfl rfl (take_ofW HT_.out HW_.out (by kernel_rfl)) (fun _ _ _ h => h) (Or.inl ⟨by rfl, ?_⟩) hHeld ?_ ?_
  rotate_left; (rintro w' ⟨s0, s1, s2⟩; go_simp; with_reducible rfl); rotate_left; (simp only [Act.put, List.setIfInBounds_toArray, List.set_cons_zero, List.set_cons_succ, i64_w, i32_w]; rfl)
  refine pure_ (i := 2) (N := some 23) (v := ?_) (a' := ?_) #[true, true, true, false, false, true, false, false, false, false, false] rfl rfl (any_of HT_.out (by kernel_rfl)) (fun _ _ _ h => h) (Or.inl ⟨by rfl, ?_⟩) ?_ ?_
  rotate_left; (intro w'; go_simp; with_reducible rfl); rotate_left; (simp only [Act.put, List.setIfInBounds_toArray, List.set_cons_zero, List.set_cons_succ, i64_w, i32_w]; rfl)
  refine pure_ (i := 3) (N := some 24) (v := ?_) (a' := ?_) #[true, true, true, true, false, true, false, false, false, false, false] rfl rfl (any_of HT_.out (by kernel_rfl)) (fun _ _ _ h => h) (Or.inl ⟨by rfl, ?_⟩) ?_ ?_
  rotate_left; (intro w'; go_simp; with_reducible rfl); rotate_left; (simp only [Act.put, List.setIfInBounds_toArray, List.set_cons_zero, List.set_cons_succ, i64_w, i32_w]; rfl)
  refine take_ (i := 4) (N := some 25) (v := ?_) (a' := ?_) #[true, true, true, true, true, true, false, false, false, false, false] rfl rfl (take_ofW HT_.out HW_.out (by kernel_rfl)) (fun _ _ _ h => h) (Or.inl ⟨by rfl, ?_⟩) hHeld ?_ ?_
  rotate_left; (rintro w' ⟨s0, s1, s2⟩; go_simp; with_reducible rfl); rotate_left; (simp only [Act.put, List.setIfInBounds_toArray, List.set_cons_zero, List.set_cons_succ, i64_w, i32_w]; rfl)
  refine take_ (i := 6) (N := some 27) (v := ?_) (a' := ?_) #[true, true, true, true, true, true, true, false, false, false, false] rfl rfl (take_ofW HT_.out HW_.out (by kernel_rfl)) (fun _ _ _ h => h) (Or.inl ⟨by rfl, ?_⟩) hHeld ?_ ?_
  rotate_left; (rintro w' ⟨s0, s1, s2⟩; go_simp; with_reducible rfl); rotate_left; (simp only [Act.put, List.setIfInBounds_toArray, List.set_cons_zero, List.set_cons_succ, i64_w, i32_w]; rfl)
  refine take_ (i := 7) (N := some 28) (v := ?_) (a' := ?_) #[true, true, true, true, true, true, true, true, false, false, false] rfl rfl (take_ofW HT_.out HW_.out (by kernel_rfl)) (fun _ _ _ h => h) (Or.inl ⟨by rfl, ?_⟩) hHeld ?_ ?_
  rotate_left; (rintro w' ⟨s0, s1, s2⟩; go_simp; with_reducible rfl); rotate_left; (simp only [Act.put, List.setIfInBounds_toArray, List.set_cons_zero, List.set_cons_succ, i64_w, i32_w]; rfl)
  refine join_ (σ := Unit) 1 #[true, true, true, true, true, true, true, true, true, true, false] (fun _ => [(29, .int .i64 (s.nxt (Srt.place L c))), (9, .pointer (some ⟨bo, 0, none⟩))]) (fun _ w' => SFB w w' g m N v1 v2 s L bx ∧ w'.heap[bo]? = some (.cells #[.int .i64 0] 3 (0, 0))) ?_ ?_
  rotate_left
  · intro hCont
    refine two_ (i := 8) (j := 9) (Ni := some 29) (Nj := some 9) #[true, true, true, true, true, true, true, true, true, false, false] #[true, true, true, true, true, true, true, true, false, true, false] rfl rfl rfl rfl (two_of HT_.out (by kernel_rfl)) (by decide) (by decide) (fun K hK => ?_) (fun K hK => ?_)
    · skip
      refine goes_ Tryz.func27 (by kernel_rfl) rfl #[.pointer (some ⟨g, 0, none⟩), .int .i64 ((Srt.place L c : Nat) : Int)] (by rfl) rfl rfl (by simp only [List.map_toArray, List.map_cons, List.map_nil]; rfl) ?_
      with_reducible refine (next_calls T.sf.sr HO.out.1 hpn hn).mono ?_
      rintro e W4 ⟨rfl, k4, rfl⟩
      refine ⟨_, rfl, ?_⟩
      replace T := T.drewN k4
      clear hHeld
      replace hz : (W3.drewN k4).heap.size = bo := hz
      generalize W3.drewN k4 = W4 at T hz ⊢
      refine hK.out _ _ ⟨T.cell, T.sf.sr.c2, T.sf.look HC.out⟩ (fun hHeld => ?_)
      clear hK K
      refine norm_ (a' := ?_) ?_ ?_
      rotate_left
      · show Act.put _ (some 29) _ = _
        simp only [Act.put, List.setIfInBounds_toArray, List.set_cons_zero, List.set_cons_succ, i64_w, i32_w]
        rfl
      refine one_ (i := 9) (N := some 9) #[true, true, true, true, true, true, true, true, true, true, false] rfl rfl (one_of HT_.out (by kernel_rfl)) (by decide) (fun K hK => ?_)
      refine value_ (w1 := W4.alloc (.cells #[.int .i64 0] 3)) (v := .pointer (some ⟨bo, 0, none⟩)) (by rfl) rfl ?_ ?_
      · rw [← hz]; go_simp
      have hbo5 : (W4.alloc (.cells #[.int .i64 0] 3)).heap[bo]? = some (.cells #[.int .i64 0] 3 (0, 0)) := by rw [← hz]; exact heap_alloc_new W4 _
      replace T := T.later ((Below.refl W4.heap.size W4).alloc (Nat.le_refl _) (.cells #[.int .i64 0] 3))
      clear hHeld
      refine hK.out _ _ ⟨T.cell, T.sf.sr.c2, T.sf.look HC.out⟩ (fun hHeld => ?_)
      clear hK K
      refine norm_ (a' := ?_) ?_ ?_
      rotate_left
      · show Act.put _ (some 9) _ = _
        simp only [Act.put, List.setIfInBounds_toArray, List.set_cons_zero, List.set_cons_succ, i64_w, i32_w]
        rfl
      exact norm_ (by simp only [putAll, Act.put, List.setIfInBounds_toArray, List.set_cons_zero, List.set_cons_succ]) (hCont () _ ⟨T, hbo5⟩)
    · skip
      refine value_ (w1 := W3.alloc (.cells #[.int .i64 0] 3)) (v := .pointer (some ⟨bo, 0, none⟩)) (by rfl) rfl ?_ ?_
      · rw [← hz]; go_simp
      have hbo5 : (W3.alloc (.cells #[.int .i64 0] 3)).heap[bo]? = some (.cells #[.int .i64 0] 3 (0, 0)) := by rw [← hz]; exact heap_alloc_new W3 _
      replace T := T.later ((Below.refl W3.heap.size W3).alloc (Nat.le_refl _) (.cells #[.int .i64 0] 3))
      clear hHeld
      generalize W3.alloc (.cells #[.int .i64 0] 3) = W4 at T hbo5 ⊢
      refine hK.out _ _ ⟨T.cell, T.sf.sr.c2, T.sf.look HC.out⟩ (fun hHeld => ?_)
      clear hK K
      refine norm_ (a' := ?_) ?_ ?_
      rotate_left
      · show Act.put _ (some 9) _ = _
        simp only [Act.put, List.setIfInBounds_toArray, List.set_cons_zero, List.set_cons_succ, i64_w, i32_w]
        rfl
      refine one_ (i := 8) (N := some 29) #[true, true, true, true, true, true, true, true, true, true, false] rfl rfl (one_of HT_.out (by kernel_rfl)) (by decide) (fun K hK => ?_)
      refine goes_ Tryz.func27 (by kernel_rfl) rfl #[.pointer (some ⟨g, 0, none⟩), .int .i64 ((Srt.place L c : Nat) : Int)] (by rfl) rfl rfl (by simp only [List.map_toArray, List.map_cons, List.map_nil]; rfl) ?_
      with_reducible refine (next_calls T.sf.sr HO.out.1 hpn hn).mono ?_
      rintro e W6 ⟨rfl, k4, rfl⟩
      refine ⟨_, rfl, ?_⟩
      replace T := T.drewN k4
      clear hHeld
      replace hbo5 : (W4.drewN k4).heap[bo]? = some (.cells #[.int .i64 0] 3 (0, 0)) := hbo5
      refine hK.out _ _ ⟨T.cell, T.sf.sr.c2, T.sf.look HC.out⟩ (fun hHeld => ?_)
      clear hK K
      refine norm_ (a' := ?_) ?_ ?_
      rotate_left
      · show Act.put _ (some 29) _ = _
        simp only [Act.put, List.setIfInBounds_toArray, List.set_cons_zero, List.set_cons_succ, i64_w, i32_w]
        rfl
      exact norm_ (by simp only [putAll, Act.put, List.setIfInBounds_toArray, List.set_cons_zero, List.set_cons_succ]) (hCont () _ ⟨T, hbo5⟩)
  rintro _ W5 ⟨T5, hbo5⟩
  have hHeld : W5.cell? ⟨bx, 0, none⟩ = some (.pointer (some ⟨g, 0, none⟩)) ∧ W5.cell? ⟨g, 2, none⟩ = some (.map (some m)) ∧ (Instr.lookup 48 (.map (some m)) (.int .u8 (vl c)) false).run Tryz.prog W5 = .ok (.int .i64 ((Srt.place L c : Nat) : Int)) W5 := ⟨T5.cell, T5.sf.sr.c2, T5.sf.look HC.out⟩
  have k0 : W5.cell? ⟨bo, 0, none⟩ = some (.int .i64 0) := blk_cell hbo5 0
  have y0 : W5.frozen? ⟨bo, 0, none⟩ = false := blk_frozen hbo5 0
  have HT5 := Lib.hid T5
  refine norm_ (a' := ?_) ?_ ?_
  rotate_left
  · simp only [putAll, Act.put, List.setIfInBounds_toArray, List.set_cons_zero, List.set_cons_succ]
    rfl
  refine last_ (i := 10) (N := none) #[true, true, true, true, true, true, true, true, true, true, true] rfl rfl (one_of HT_.out (by kernel_rfl)) (by decide) (fun K hK => ?_)
  clear hHeld
  refine skip_ (w1 := ?_) (by rfl) rfl ?_ ?_
  rotate_left
  · go_simp
    rfl
  refine hK.out _ _ ?_
  clear hK K
  refine done_ (done_of HT_.out (by kernel_rfl)) ?_
  obtain ⟨W6, hW6⟩ : ∃ W6, W6 = W5.setCell ⟨bo, 0, none⟩ (.int .i64 (s.nxt (Srt.place L c))) := ⟨_, rfl⟩
  have HT6 : Hid (SFB w W6 g m N v1 v2 s L bx ∧ W6.cell? ⟨bo, 0, none⟩ = some (.int .i64 (s.nxt (Srt.place L c)))) := by
    rw [hW6]
    exact ⟨T5.far T (Nat.le_of_eq hz) _ _, blk_cell (blk_put (cs' := #[.int .i64 (s.nxt (Srt.place L c))]) hbo5 0 _ rfl) 0⟩
  rw [← hW6]
  clear hW6 k0 y0 HT5 T5 hbo5
  have hd0 := HT6.out.1.cell
  have hnm := namedCarriedBy_calls (fun x => ((s.rt x : Nat) : Int) == s.nxt (Srt.place L c)) (.pointer (some ⟨bx, 0, none⟩)) (.pointer (some ⟨bo, 0, none⟩)) HT6.out.1.sf.sr HT6.out.1.sf.mp (fun d hd j =>
    (clo_calls (HT6.out.1.sf.sr.drewN j) HO.out.1 (x := Srt.place L d) (by have := Srt.place_lt hd; have := HO.out.2; omega) hn HT6.out.1.cell HT6.out.2).mono fun e w' ⟨h1, k, h2⟩ => ⟨h1, j + k, by rw [h2, drewN_comp]⟩)
  go_wp2_with fail
  refine hnm.mono ?_
  rintro e w5 ⟨rfl, k5, rfl⟩
  clear hnm
  go_wp2_with fail
  go_ret2
  exact ⟨by rw [hv.out]; rfl, pw_below_drewN HT6.out.1.sf.below _⟩

set_option maxHeartbeats 4000000 in
set_option maxRecDepth 100000 in
theorem car_spec (p a : List UInt8) (w : World) :
    Calls Tryz.prog 11 #[.string (B p), .string (B a)] w fun e w' => e = .returned (.tuple #[.string (B (val p a).1), .bool (val p a).2]) ∧ Below w.heap.size w w' := by
  have hpl := place_f p a
  rcases hok : withB p [a] with _ | _
  · have hv : Hid (val p a = ([], false)) := by simp [Hid, val, hok]
    rw [hok] at hpl
    clear hok
    go_enter Tryz.func11, Tryz.ntmps11
    go_wp2_with fail
    refine (spec_soPlace.calls 4000 (B p) (B a) _ _ _ hpl).mono ?_
    rintro e w1 ⟨rfl, hb⟩
    clear hpl
    go_wp2_with fail
    go_ret2
    exact ⟨by rw [hv.out]; rfl, hb⟩
  · obtain ⟨hr, c, rfl, hc, hm, hpv, hpn⟩ := with_name hok
    have HS := Lib.hid (rsof_read hr)
    have HO := Lib.hid (Srt.of_ok (read_good hr).2.2.1)
    have HFR : Hid (spec_tmFree.f 3000 (B p) = some (B (sortL (parsed p).1.fr))) := by
      obtain ⟨g1, g2, g3, g4⟩ := read_good hr
      have := frees_text (parsed p).1 3000 g3 (by rw [← g2]; omega) (by omega)
      rw [← g2] at this; exact this
    have hv : Hid (val p [c] = ((sortL (parsed p).1.fr).filter (hold (Srt.of (parsed p).1) (sortL (parsed p).1.fr) (placeV p [c])), true)) := by
      rw [Hid]; unfold val; rw [if_pos hok]
    have HH : Hid (∀ j, (hj : j < (sortL (parsed p).1.fr).length) → hold (Srt.of (parsed p).1) (sortL (parsed p).1.fr) (placeV p [c]) (sortL (parsed p).1.fr)[j] = ((((Srt.of (parsed p).1).rt j : Nat) : Int) == (Srt.of (parsed p).1).nxt (placeV p [c]))) := fun j hj => by
      unfold hold
      rw [place_at (sort_nodup _) hj]
    have HLL : Hid ((sortL (parsed p).1.fr).length ≤ 26) := sort_len _
    rw [hok] at hpl
    rw [← hpv] at hpn
    have hn : (Srt.of (parsed p).1).n ≤ 1000000 := by have := HO.out.2; have := (read_good hr).2.2.2; omega
    generalize placeV p [c] = x at hpl hpn hv HH
    generalize hold (Srt.of (parsed p).1) (sortL (parsed p).1.fr) x = h at HH hv
    clear hpv hm
    generalize sortL (parsed p).1.fr = L at HO hv HFR HH HLL
    generalize Srt.of (parsed p).1 = s at hpn HO HS hn HH
    clear hok hr hc
    have hLz : (B L).size = L.length := B_size L
    go_enter Tryz.func11, Tryz.ntmps11
    go_wp2_with fail
    refine (spec_soPlace.calls 4000 (B p) (B [c]) _ _ _ hpl).mono ?_
    rintro e w1 ⟨rfl, hb⟩
    have HB := Lib.hid hb
    clear hpl hb
    go_wp2_with fail
    refine (HS.out _).mono ?_
    rintro e w2 ⟨g, N, v1, v2, rfl, hs, hb2, hg, hN⟩
    have HB2 := Lib.hid (below_then HB.out HB.out.size hb2)
    obtain ⟨r2, cap2, rfl, _, _, hcap⟩ := hs.r2.form (by omega)
    have HSR := Lib.hid hs
    have hrx := HO.out.1.rlt x hpn
    have hc1 := hs.c1
    have hcr := hs.r2.cell hrx
    have HCB := Lib.hid (HO.out.1.clo (s.rt x) hrx)
    have HNX : Hid (s.nxt x = if s.car (s.rt x) < 0 then (-1 : Int) else ((s.rt (s.car (s.rt x)).toNat : Nat) : Int)) := rfl
    clear hs hb2 hg hN HB
    go_wp2_with fail
    refine start_ (n := 10) (S := fun w' => w'.cell? ⟨g, 1, none⟩ = some (.slice (some ⟨r2, 0, none⟩) s.n cap2) ∧ w'.cell? ⟨r2, s.rt x, none⟩ = some (.int .i64 (s.car (s.rt x)))) (ds := []) #[false, false, false, false, false, false, false, false, false, false] (by kernel_rfl) rfl rfl ⟨hc1, hcr⟩ (fun hHeld => ?_)
    refine with_tabW carr_.tab5 carr_.bits5 (fun HT_ HW_ => ?_)
    have T : SrAt w2.drew N g v1 (.slice (some ⟨r2, 0, none⟩) s.n cap2) [] s ∧ w2.drew.cell? ⟨g, 1, none⟩ = some (.slice (some ⟨r2, 0, none⟩) s.n cap2) ∧ w2.drew.cell? ⟨r2, s.rt x, none⟩ = some (.int .i64 (s.car (s.rt x))) := And.intro (HSR.out.drewN 1) (And.intro hc1 hcr)
    generalize hW3 : w2.drew = W3 at T hHeld ⊢
    refine pure_ (i := 0) (N := some 23) (v := ?_) (a' := ?_) #[true, false, false, false, false, false, false, false, false, false] rfl rfl (any_of HT_.out (by kernel_rfl)) (fun _ _ _ h => h) (Or.inl ⟨by rfl, ?_⟩) ?_ ?_
    rotate_left; (intro w'; go_simp; with_reducible rfl); rotate_left; (simp only [Act.put, List.setIfInBounds_toArray, List.set_cons_zero, List.set_cons_succ, i64_w, i32_w]; rfl)
    refine pure_ (i := 1) (N := some 24) (v := ?_) (a' := ?_) #[true, true, false, false, false, false, false, false, false, false] rfl rfl (any_of HT_.out (by kernel_rfl)) (fun _ _ _ h => h) (Or.inl ⟨by rfl, ?_⟩) ?_ ?_
    rotate_left; (intro w'; go_simp; with_reducible rfl); rotate_left; (simp only [Act.put, List.setIfInBounds_toArray, List.set_cons_zero, List.set_cons_succ, i64_w, i32_w]; rfl)
    refine pure_ (i := 2) (N := some 25) (v := ?_) (a' := ?_) #[true, true, true, false, false, false, false, false, false, false] rfl rfl (any_of HT_.out (by kernel_rfl)) (fun _ _ _ h => h) (Or.inl ⟨by rfl, ?_⟩) ?_ ?_
    rotate_left; (intro w'; go_simp; with_reducible rfl); rotate_left; (simp only [Act.put, List.setIfInBounds_toArray, List.set_cons_zero, List.set_cons_succ, i64_w, i32_w]; rfl)
    refine pure_ (i := 4) (N := some 27) (v := ?_) (a' := ?_) #[true, true, true, false, true, false, false, false, false, false] rfl rfl (any_of HT_.out (by kernel_rfl)) (fun _ _ _ h => h) (Or.inl ⟨by rfl, ?_⟩) ?_ ?_
    rotate_left; (intro w'; go_simp; with_reducible rfl); rotate_left; (simp only [Act.put, List.setIfInBounds_toArray, List.set_cons_zero, List.set_cons_succ, i64_w, i32_w]; rfl)
    refine pure_ (i := 5) (N := some 28) (v := ?_) (a' := ?_) #[true, true, true, false, true, true, false, false, false, false] rfl rfl (any_of HT_.out (by kernel_rfl)) (fun _ _ _ h => h) (Or.inl ⟨by rfl, ?_⟩) ?_ ?_
    rotate_left; (intro w'; go_simp; with_reducible rfl); rotate_left; (simp only [Act.put, List.setIfInBounds_toArray, List.set_cons_zero, List.set_cons_succ, i64_w, i32_w]; rfl)
    refine take_ (i := 3) (N := some 26) (v := ?_) (a' := ?_) #[true, true, true, true, true, true, false, false, false, false] rfl rfl (take_ofW HT_.out HW_.out (by kernel_rfl)) (fun _ _ _ h => h) (Or.inl ⟨by rfl, ?_⟩) hHeld ?_ ?_
    rotate_left; (rintro w' ⟨s0, s1⟩; go_simp; with_reducible rfl); rotate_left; (simp only [Act.put, List.setIfInBounds_toArray, List.set_cons_zero, List.set_cons_succ, i64_w, i32_w]; rfl)
    refine one_ (i := 6) (N := some 29) #[true, true, true, true, true, true, true, false, false, false] rfl rfl (one_of HT_.out (by kernel_rfl)) (by decide) (fun K hK => ?_)
    refine goes_ Tryz.func33 (by kernel_rfl) rfl #[.pointer (some ⟨g, 0, none⟩), .int .i64 ((x : Nat) : Int)] (by rfl) rfl rfl (by simp only [List.map_toArray, List.map_cons, List.map_nil]; rfl) ?_
    with_reducible refine (Rf.root_calls T.1 HO.out.1 hpn hn).mono ?_
    rintro e W4 ⟨rfl, rfl⟩
    refine ⟨_, rfl, ?_⟩
    clear hHeld
    refine hK.out _ _ ⟨T.2.1, T.2.2⟩ (fun hHeld => ?_)
    clear hK K
    refine norm_ (a' := ?_) ?_ ?_
    rotate_left
    · show Act.put _ (some 29) _ = _
      simp only [Act.put, List.setIfInBounds_toArray, List.set_cons_zero, List.set_cons_succ, i64_w, i32_w]
      rfl
    refine pure_ (i := 7) (N := some 30) (v := ?_) (a' := ?_) #[true, true, true, true, true, true, true, true, false, false] rfl rfl (any_of HT_.out (by kernel_rfl)) (fun _ _ _ h => h) (Or.inl ⟨by rfl, ?_⟩) ?_ ?_
    rotate_left; (intro w'; go_simp; with_reducible rfl); rotate_left; (simp only [Act.put, List.setIfInBounds_toArray, List.set_cons_zero, List.set_cons_succ, i64_w, i32_w]; rfl)
    refine take_ (i := 8) (N := some 31) (v := ?_) (a' := ?_) #[true, true, true, true, true, true, true, true, true, false] rfl rfl (take_ofW HT_.out HW_.out (by kernel_rfl)) (fun _ _ _ h => h) (Or.inl ⟨by rfl, ?_⟩) hHeld ?_ ?_
    rotate_left; (rintro w' ⟨s0, s1⟩; go_simp; with_reducible rfl); rotate_left; (simp only [Act.put, List.setIfInBounds_toArray, List.set_cons_zero, List.set_cons_succ, i64_w, i32_w]; rfl)
    refine pure_ (i := 9) (N := some 9) (v := ?_) (a' := ?_) #[true, true, true, true, true, true, true, true, true, true] rfl rfl (any_of HT_.out (by kernel_rfl)) (fun _ _ _ h => h) (Or.inl ⟨by rfl, ?_⟩) ?_ ?_
    rotate_left; (intro w'; go_simp; with_reducible rfl); rotate_left; (simp only [Act.put, List.setIfInBounds_toArray, List.set_cons_zero, List.set_cons_succ, i64_w, i32_w]; rfl)
    refine done_ (done_of HT_.out (by kernel_rfl)) ?_
    have HT := Lib.hid T.1
    have HB3 : Hid (Below w.heap.size w W4) := by rw [Hid, ← hW3]; exact pw_below_drewN HB2.out 1
    clear T hc1 hcr hW3
    generalize s.car (s.rt x) = K at HCB HNX ⊢
    by_cases hneg : K < 0
    · have hv2 : Hid (val p [c] = ([], true)) := by
        rw [Hid, hv.out]
        congr 1
        rw [List.filter_eq_nil_iff]
        intro d hd
        obtain ⟨j, hj, rfl⟩ := List.getElem_of_mem hd
        rw [HH.out j hj, HNX.out, if_pos hneg, nat_ne]
        decide
      go_wp2_with fail
      go_ret2
      exact ⟨by rw [hv2.out]; rfl, HB3.out⟩
    obtain ⟨z, rfl⟩ : ∃ z : Nat, K = z := ⟨K.toNat, by omega⟩
    have hzn : z < s.n := by have := HCB.out.2; omega
    have HHZ : Hid (∀ j, (hj : j < L.length) → h L[j] = (((s.rt j : Nat) : Int) == ((s.rt z : Nat) : Int))) := fun j hj => by
      rw [HH.out j hj, HNX.out, if_neg hneg, Int.toNat_natCast]
    have hneg2 : ¬ ((z : Nat) : Int) < 0 := hneg
    clear HNX HH HCB hneg
    go_wp2_with fail
    refine (spec_tmFree.calls 3000 (B p) _ _ HFR.out).mono ?_
    rintro e w5 ⟨rfl, hb5⟩
    have HB5 := Lib.hid (below_then HB3.out HB3.out.size hb5)
    have HS5 := Lib.hid (HT.out.below hb5)
    clear hb5 HT HSR hneg2 hcap hrx
    go_wp2_with fail
    go_loop [11, 12] (fun o i => ∃ j : Nat, j ≤ L.length ∧ i = .int .i64 j ∧ o = .string (B ((L.take j).filter h))) (fun _ i => L.length - (intOf i).toNat)
    case atStart => exact ⟨0, Nat.zero_le _, rfl, rfl⟩
    case round =>
      obtain ⟨j, hj, rfl, rfl⟩ := hrel
      by_cases hlt : j < L.length
      · have hlt4 : (j : Int) < (L.length : Int) := by omega
        have hr1 := Rf.root_calls HS5.out HO.out.1 (x := j) (by have := HO.out.2; omega) hn
        have hr2 := Rf.root_calls HS5.out HO.out.1 hzn hn
        have hex : (B L).extract j (j + 1) = B [L[j]] := by
          rw [B_extract]
          congr 1
          rw [List.take_succ_eq_append_getElem hlt, List.drop_append_of_le_length (by rw [List.length_take]; omega), List.drop_eq_nil_of_le (by rw [List.length_take]; omega), List.nil_append]
        have hwr : wrap64 ((j : Int) + 1) = (j : Int) + 1 := wrap_id (by omega) (by have := HLL.out; omega)
        have hsl : ∀ W : World, (Instr.slice 9 (.string (B L)) (some (.int .i64 j)) (some (.int .i64 ((j : Int) + 1))) none).run Tryz.prog W = .ok (.string (B [L[j]])) W := by
          intro W
          have := run_slice_string (P := Tryz.prog) W 9 (B L) .i64 .i64 (j : Int) ((j : Int) + 1) Tryz.underlying9 (by omega) (by omega) (by rw [hLz]; omega)
          rw [show ((j : Int) + 1).toNat = j + 1 from by omega, Int.toNat_natCast, hex] at this
          exact this
        have hcz : ¬ (9223372036854775807 < (B ((L.take j).filter h)).size + (B [L[j]]).size) := by rw [B_size, B_size]; have := List.length_filter_le h (L.take j); rw [List.length_take] at this; have := HLL.out; simp; omega
        have hcat : B ((L.take j).filter h) ++ B [L[j]] = B ((L.take j).filter h ++ [L[j]]) := B_append _ _
        have HFT := Lib.hid (filter_take L h hlt)
        have HHJ := Lib.hid (HHZ.out j hlt)
        rcases hq : (((s.rt j : Nat) : Int) == ((s.rt z : Nat) : Int)) with _ | _
        · have HN : Hid ((L.take (j + 1)).filter h = (L.take j).filter h) := by rw [Hid, HFT.out, HHJ.out, hq]; simp
          clear HFT HHJ
          go_wp2_with fail
          refine hr1.mono ?_
          rintro e w6 ⟨rfl, rfl⟩
          clear hr1
          go_wp2_with fail
          refine hr2.mono ?_
          rintro e w7 ⟨rfl, rfl⟩
          clear hr2
          go_wp2_with fail
          go_round
          case rel => exact ⟨j + 1, by omega, by go_num, by rw [HN.out]⟩
          case measure => exact meas hlt hwr
        · have HN : Hid ((L.take (j + 1)).filter h = (L.take j).filter h ++ [L[j]]) := by rw [Hid, HFT.out, HHJ.out, hq]; rfl
          clear HFT HHJ
          go_wp2_with fail
          refine hr1.mono ?_
          rintro e w6 ⟨rfl, rfl⟩
          clear hr1
          go_wp2_with fail
          refine hr2.mono ?_
          rintro e w7 ⟨rfl, rfl⟩
          clear hr2
          go_wp2_with fail
          go_round
          case rel => exact ⟨j + 1, by omega, by go_num, by rw [HN.out]⟩
          case measure => exact meas hlt hwr
      · have hjl : j = L.length := by omega
        subst hjl
        rw [List.take_length]
        go_wp2_with fail
        go_ret2
        exact ⟨by rw [hv.out]; rfl, HB5.out⟩


end Go.Proofs.YtjgfgjhaghbehaaGreat.PFnExactCarriedBy
