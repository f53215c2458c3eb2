/- Several texts in one.
   Classes of letters: the letters of one root, class by class. No program in sight.
   The walk of the reference's SortClasses. (Written by gen_cls.py.)
   The walk of the sorter's named with a closure: the free names of whose sorts the closure says yes. (Written by gen_named.py.)
   The walk of the program's SortClasses. (Written by gen_clsi.py.) -/
import Derived.Test.YtonfbnbfbdcmhaaSortC
import Derived.Test.YtonfbnbfbdcmhaaSortB
import Derived.Test.YtonfbnbfbdcmhaaSortA
import Derived.Test.YtonfbnbfbdcmhaaIdx
namespace Go.Proofs.Ytonfbnbfbdcmhaa
open Go.RowKit Go.Proofs.YtonfbnbfbdcmhaaW.PrintWords
set_option linter.unusedVariables false
set_option linter.unusedSimpArgs false

def cls (L : List UInt8) (r : UInt8 → Nat) (x : Nat) : List UInt8 := L.filter fun d => r d == x
def ahead (L : List UInt8) (r : UInt8 → Nat) (i x : Nat) : Bool := (L.take i).any fun e => r e == x
def outs (L : List UInt8) (r : UInt8 → Nat) : Nat → List (List UInt8)
  | 0 => []
  | i + 1 => match L[i]? with
    | some c => if ahead L r i (r c) = true then outs L r i else outs L r i ++ [cls L r (r c)]
    | Option.none => outs L r i
section
variable {L : List UInt8} {r : UInt8 → Nat} {i x : Nat}
theorem outs_succ (hi : i < L.length) : outs L r (i + 1) = if ahead L r i (r L[i]) = true then outs L r i else outs L r i ++ [cls L r (r L[i])] := by
  rw [outs, List.getElem?_eq_getElem hi]
theorem ahead_succ (hi : i < L.length) : ahead L r (i + 1) x = (ahead L r i x || (r L[i] == x)) := by
  unfold ahead
  rw [List.take_succ_eq_append_getElem hi, List.any_append]
  simp
theorem outs_mem {d : UInt8} (hd : d ∈ L) : ∀ i, i ≤ L.length → (d ∈ (outs L r i).flatten ↔ ahead L r i (r d) = true)
  | 0, _ => by simp [outs, ahead]
  | i + 1, h => by
    have ih := outs_mem hd i (by omega)
    rw [outs_succ (by omega), ahead_succ (by omega), Bool.or_eq_true, beq_iff_eq]
    split
    · rename_i ha
      rw [ih]
      refine ⟨.inl, fun k => ?_⟩
      rcases k with k | k
      · exact k
      · rw [← k]; exact ha
    · rw [List.flatten_append, List.mem_append, ih]
      refine or_congr_right ?_
      simp only [List.flatten_cons, List.flatten_nil, List.append_nil, cls, List.mem_filter, beq_iff_eq]
      exact ⟨fun k => k.2.symm, fun k => ⟨hd, k.symm⟩⟩
theorem outs_len : ∀ i, (outs L r i).length ≤ i
  | 0 => Nat.le_refl _
  | i + 1 => by
    have := outs_len i
    unfold outs
    split
    · split
      · omega
      · simp; omega
    · omega
theorem cls_len : (cls L r x).length ≤ L.length := List.length_filter_le _ _
theorem outs_flat : ∀ i, (outs L r i).flatten.length ≤ i * L.length
  | 0 => by simp [outs]
  | i + 1 => by
    have := outs_flat i
    have hs : (i + 1) * L.length = i * L.length + L.length := Nat.succ_mul _ _
    unfold outs
    split
    · rename_i c _
      split
      · omega
      · rw [List.flatten_append, List.length_append]
        have := cls_len (L := L) (r := r) (x := r c)
        simp only [List.flatten_cons, List.flatten_nil, List.append_nil]
        omega
    · omega
def strs (l : List (List UInt8)) : List ByteArray := l.map B
theorem strs_len (l : List (List UInt8)) : (strs l).length = l.length := by simp [strs]
theorem strs_one (l : List (List UInt8)) (x : List UInt8) : strs (l ++ [x]) = strs l ++ [B x] := by simp [strs]
theorem first_succ {j : Nat} (hj : j < L.length) : ahead L r (min (j + 1) i) x = (ahead L r (min j i) x || (decide (j < i) && (r L[j] == x))) := by
  by_cases h : j < i
  · rw [Nat.min_eq_left (by omega), Nat.min_eq_left (by omega), ahead_succ hj, decide_eq_true h, Bool.true_and]
  · rw [Nat.min_eq_right (by omega), Nat.min_eq_right (by omega), decide_eq_false h, Bool.false_and, Bool.or_false]
theorem cls_succ {j : Nat} (hj : j < L.length) : cls (L.take (j + 1)) r x = if (r L[j] == x) = true then cls (L.take j) r x ++ [L[j]] else cls (L.take j) r x := by
  unfold cls
  rw [filter_take L _ hj]
  split
  · rfl
  · exact List.append_nil _
end
end Go.Proofs.Ytonfbnbfbdcmhaa
namespace Go.Proofs.Ytonfbnbfbdcmhaa.Rf
open Go.RowKit Go.Proofs.YtonfbnbfbdcmhaaW.PrintWords Go.Proofs.YtonfbnbfbdcmhaaW.PrintLast Go.Proofs.YtonfbnbfbdcmhaaW.PrintMore Go.Proofs.Ytonfbnbfbdcmhaa.Pterm Go.Proofs.Ytonfbnbfbdcmhaa.PsoPlace
set_option linter.unusedVariables false
set_option linter.unusedSimpArgs false

def rtL (t : Tm) (c : UInt8) : Nat := (Srt.of t).rt (Srt.place (sortL t.fr) c)
def clsV (l : List UInt8) : List ByteArray := if readOk l = true then strs (outs (sortL (parsed l).1.fr) (rtL (parsed l).1) (sortL (parsed l).1.fr).length) else []
theorem clsV_len (l : List UInt8) : (clsV l).length ≤ 26 := by
  unfold clsV
  split
  · rw [strs_len]; have := outs_len (L := sortL (parsed l).1.fr) (r := rtL (parsed l).1) (sortL (parsed l).1.fr).length; have := sort_len (parsed l).1.fr; omega
  · simp
theorem meas {n j : Nat} (h : j < n) (hw : wrap64 ((j : Int) + 1) = (j : Int) + 1) : n - (intOf (.int .i64 (wrap64 ((j : Int) + 1)))).toNat < n - (intOf (.int .i64 (j : Int))).toNat := by
  rw [hw]; simp only [intOf]; omega
theorem row_newS (W : World) (base : Nat) (l : List ByteArray) (hb : base ≤ W.heap.size) (hl : l.length ≤ 1000) : Kd.R Kd.string 9 (W.alloc (.cells (l.map Value.string).toArray 9)) base (fun _ => True) (.slice (some ⟨W.heap.size, 0, none⟩) l.length l.length) l := by
  refine Kd.R_of_own ⟨by simp [encs], .inr ⟨W.heap.size, l.length, (l.map Value.string).toArray, rfl, hb, heap_alloc_new W _, Nat.le_refl _, by unfold maxLen; omega, by simp, ?_⟩⟩ (fun _ _ => trivial)
  simp only [encs, Nat.mul_one]
  rw [List.take_of_length_le (by simp)]
set_option maxHeartbeats 8000000 in
set_option maxRecDepth 100000 in
theorem cls_spec (l : List UInt8) (w : World) :
    Calls Try.prog 31 #[.string (B l)] w fun e w' => ∃ v, e = .returned (.tuple #[v, .bool (readOk l)]) ∧ Kd.R Kd.string 9 w' w.heap.size (fun _ => True) v (clsV l) ∧ Below w.heap.size w w' := by
  have hgd := good_f l 3000 (by omega)
  rcases hok : readOk l with _ | _
  · have hv : Hid (clsV l = []) := by simp [Hid, clsV, hok]
    rw [hok] at hgd
    clear hok
    go_enter Try.func31, Try.ntmps31
    go_wp2_with fail
    refine (spec_tmGood.calls 3000 (B l) _ _ hgd).mono ?_
    rintro e w1 ⟨rfl, hb⟩
    clear hgd
    go_wp2_with fail
    go_ret2
    exact ⟨.slice none 0 0, rfl, by rw [hv.out]; exact Kd.R_nil _ _ _ _ _, hb⟩
  · have HS := Lib.hid (rsof_read hok)
    have HO := Lib.hid (Srt.of_ok (read_good hok).2.2.1)
    have HFR : Hid (spec_tmFree.f 3000 (B l) = some (B (sortL (parsed l).1.fr))) := by
      obtain ⟨g1, g2, g3, g4⟩ := read_good hok
      have := frees_text (parsed l).1 3000 g3 (by rw [← g2]; omega) (by omega)
      rw [← g2] at this; exact this
    have hv : Hid (clsV l = strs (outs (sortL (parsed l).1.fr) (rtL (parsed l).1) (sortL (parsed l).1.fr).length)) := by simp [Hid, clsV, hok]
    have HRT : Hid (∀ j, (hj : j < (sortL (parsed l).1.fr).length) → rtL (parsed l).1 (sortL (parsed l).1.fr)[j] = (Srt.of (parsed l).1).rt j) := fun j hj => by
      unfold rtL; rw [place_at (sort_nodup _) hj]
    have HLL : Hid ((sortL (parsed l).1.fr).length ≤ 26) := sort_len _
    have hn : (Srt.of (parsed l).1).n ≤ 1000000 := by have := HO.out.2; have := (read_good hok).2.2.2; omega
    rw [hok] at hgd
    generalize rtL (parsed l).1 = r at HRT hv
    generalize sortL (parsed l).1.fr = L at HO hv HFR HRT HLL
    generalize Srt.of (parsed l).1 = s at HO HS hn HRT
    clear hok
    have hLz : (B L).size = L.length := B_size L
    go_enter Try.func31, Try.ntmps31
    go_wp2_with fail
    refine (spec_tmGood.calls 3000 (B l) _ _ hgd).mono ?_
    rintro e w1 ⟨rfl, hb⟩
    clear hgd
    have HB := Lib.hid hb
    clear hb
    go_wp2_with fail
    refine (HS.out _).mono ?_
    rintro e w2 ⟨g, N, v1, v2, rfl, hs, hb2, hg, hN⟩
    have HB2 := Lib.hid (below_then HB.out HB.out.size hb2)
    have HSR := Lib.hid hs
    clear hs hb2 hg hN HB
    go_wp2_with fail
    refine (spec_tmFree.calls 3000 (B l) _ _ HFR.out).mono ?_
    rintro e w3 ⟨rfl, hb3⟩
    have HB3 := Lib.hid (below_then HB2.out HB2.out.size hb3)
    have HS3 := Lib.hid (HSR.out.below hb3)
    clear hb3
    go_wp2_with fail
    go_loopw [6, 7] (fun o i wr => ∃ (j : Nat) (v : Value), j ≤ L.length ∧ i = .int .i64 j ∧ o = v ∧ Kd.R Kd.string 9 wr w3.heap.size (fun _ => True) v (strs (outs L r j)) ∧ Below w3.heap.size w3 wr) (fun _ i _ => L.length - (intOf i).toNat)
    case atStart => exact ⟨0, _, Nat.zero_le _, rfl, rfl, Kd.R_nil _ _ _ _ _, Below.refl _ _⟩
    case round =>
      obtain ⟨i, v, hi, rfl, rfl, hr, hbr⟩ := hrel
      obtain ⟨Av, cv, rfl⟩ := Kd.R_slice hr
      have HR := Lib.hid hr
      have HBr := Lib.hid hbr
      clear hr hbr
      by_cases hlt : i < L.length
      · have hlt4 : (i : Int) < (L.length : Int) := by omega
        have hwi : wrap64 ((i : Int) + 1) = (i : Int) + 1 := wrap_id (by omega) (by have := HLL.out; omega)
        have HS4 := Lib.hid (HS3.out.below HBr.out)
        have HOI := Lib.hid (outs_succ (r := r) hlt)
        have HRI := Lib.hid (HRT.out i hlt)
        go_wp2_with fail
        go_loop [8, 9, 10] (fun c f k => ∃ j : Nat, j ≤ L.length ∧ k = .int .i64 j ∧ c = .string (B (cls (L.take j) r (s.rt i))) ∧ f = .bool (!ahead L r (min j i) (s.rt i))) (fun _ _ k => L.length - (intOf k).toNat)
        case atStart => exact ⟨0, Nat.zero_le _, rfl, rfl, by simp [ahead]⟩
        case round =>
          obtain ⟨j, hj, rfl, rfl, rfl⟩ := hrel
          by_cases hltj : j < L.length
          · have hltj4 : (j : Int) < (L.length : Int) := by omega
            have hwr : wrap64 ((j : Int) + 1) = (j : Int) + 1 := wrap_id (by omega) (by have := HLL.out; omega)
            have hr1 := Rf.root_calls HS4.out HO.out.1 (x := i) (by have := HO.out.2; omega) hn
            have hr2 := Rf.root_calls HS4.out HO.out.1 (x := j) (by have := HO.out.2; omega) hn
            have hex : (B L).extract j (j + 1) = B [L[j]] := by
              rw [B_extract]
              congr 1
              rw [List.take_succ_eq_append_getElem hltj, List.drop_append_of_le_length (by rw [List.length_take]; omega), List.drop_eq_nil_of_le (by rw [List.length_take]; omega), List.nil_append]
            have hsl : ∀ W : World, (Instr.slice 9 (.string (B L)) (some (.int .i64 j)) (some (.int .i64 ((j : Int) + 1))) none).run Try.prog W = .ok (.string (B [L[j]])) W := by
              intro W
              have := run_slice_string (P := Try.prog) W 9 (B L) .i64 .i64 (j : Int) ((j : Int) + 1) Try.underlying9 (by omega) (by omega) (by rw [hLz]; omega)
              rw [show ((j : Int) + 1).toNat = j + 1 from by omega, Int.toNat_natCast, hex] at this
              exact this
            have hcz : ¬ (9223372036854775807 < (B (cls (L.take j) r (s.rt i))).size + (B [L[j]]).size) := by rw [B_size, B_size]; have := cls_len (L := L.take j) (r := r) (x := s.rt i); rw [List.length_take] at this; have := HLL.out; simp; omega
            have hcat : B (cls (L.take j) r (s.rt i)) ++ B [L[j]] = B (cls (L.take j) r (s.rt i) ++ [L[j]]) := B_append _ _
            have HCS := Lib.hid (cls_succ (L := L) (r := r) (x := s.rt i) hltj)
            have HFS := Lib.hid (first_succ (L := L) (r := r) (x := s.rt i) (i := i) hltj)
            have HRJ := Lib.hid (HRT.out j hltj)
            have q := eqb_int (a := s.rt i) (b := s.rt j)
            generalize ahead L r (min j i) (s.rt i) = A at HFS ⊢
            by_cases he : s.rt i = s.rt j
            · rw [decide_eq_true he] at q
              have HCN : Hid (cls (L.take (j + 1)) r (s.rt i) = cls (L.take j) r (s.rt i) ++ [L[j]]) := by rw [Hid, HCS.out, HRJ.out, he]; simp
              have HFN : Hid (ahead L r (min (j + 1) i) (s.rt i) = (A || decide (j < i))) := by rw [Hid, HFS.out, HRJ.out, he]; simp
              clear he HCS HFS HRJ
              rcases A with _ | _
              · by_cases hji : j < i
                · have hge : ¬ (i : Int) ≤ (j : Int) := by omega
                  have HFN2 : Hid (ahead L r (min (j + 1) i) (s.rt i) = true) := by rw [Hid, HFN.out, decide_eq_true hji]; rfl
                  clear HFN
                  go_wp2_with fail
                  refine hr1.mono ?_
                  rintro e w6 ⟨rfl, rfl⟩
                  clear hr1
                  go_wp2_with fail
                  refine hr2.mono ?_
                  rintro e w7 ⟨rfl, rfl⟩
                  clear hr2
                  go_wp2_with fail
                  go_round
                  case rel => exact ⟨j + 1, by omega, by go_num, by rw [HCN.out], by rw [HFN2.out]; simp; omega⟩
                  case measure => exact meas hltj hwr
                · have hge : (i : Int) ≤ (j : Int) := by omega
                  have HFN2 : Hid (ahead L r (min (j + 1) i) (s.rt i) = false) := by rw [Hid, HFN.out, decide_eq_false hji]; rfl
                  clear HFN
                  go_wp2_with fail
                  refine hr1.mono ?_
                  rintro e w6 ⟨rfl, rfl⟩
                  clear hr1
                  go_wp2_with fail
                  refine hr2.mono ?_
                  rintro e w7 ⟨rfl, rfl⟩
                  clear hr2
                  go_wp2_with fail
                  go_round
                  case rel => exact ⟨j + 1, by omega, by go_num, by rw [HCN.out], by rw [HFN2.out]; rfl⟩
                  case measure => exact meas hltj hwr
              · have HFN2 : Hid (ahead L r (min (j + 1) i) (s.rt i) = true) := by rw [Hid, HFN.out]; rfl
                clear HFN
                go_wp2_with fail
                refine hr1.mono ?_
                rintro e w6 ⟨rfl, rfl⟩
                clear hr1
                go_wp2_with fail
                refine hr2.mono ?_
                rintro e w7 ⟨rfl, rfl⟩
                clear hr2
                go_wp2_with fail
                go_round
                case rel => exact ⟨j + 1, by omega, by go_num, by rw [HCN.out], by rw [HFN2.out]; rfl⟩
                case measure => exact meas hltj hwr
            · rw [decide_eq_false he] at q
              have HCN : Hid (cls (L.take (j + 1)) r (s.rt i) = cls (L.take j) r (s.rt i)) := by
                rw [Hid, HCS.out, HRJ.out, if_neg (by simpa using fun k => he k.symm)]
              have HFN : Hid (ahead L r (min (j + 1) i) (s.rt i) = A) := by
                rw [Hid, HFS.out, HRJ.out, show (s.rt j == s.rt i) = false from by simpa using fun k => he k.symm, Bool.and_false, Bool.or_false]
              clear he HCS HFS HRJ
              go_wp2_with fail
              refine hr1.mono ?_
              rintro e w6 ⟨rfl, rfl⟩
              clear hr1
              go_wp2_with fail
              refine hr2.mono ?_
              rintro e w7 ⟨rfl, rfl⟩
              clear hr2
              go_wp2_with fail
              go_round
              case rel => exact ⟨j + 1, by omega, by go_num, by rw [HCN.out], by rw [HFN.out]⟩
              case measure => exact meas hltj hwr
          · have hjl : j = L.length := by omega
            subst hjl
            rw [List.take_length, Nat.min_eq_right (by omega)]
            rw [← HRI.out]
            rcases hA : ahead L r i (r L[i]) with _ | _
            · have HN : Hid (outs L r (i + 1) = outs L r i ++ [cls L r (r L[i])]) := by rw [Hid, HOI.out, hA]; rfl
              have hjl : Hid ((strs (outs L r i)).length ≤ 26) := by show _ ≤ _; rw [strs_len]; have := outs_len (L := L) (r := r) i; have := HLL.out; omega
              clear hA
              go_wp2_with (first | ((with_reducible refine gate_dst (N := 54) rfl ?_); refine Kd.R_append Kd.string (w0 := w3) (W := wr) w3.heap.size (by rfl) _ _ 30 9 (.string ⟨#[]⟩) 16 (by rfl) Try.underlying30 (by kernel_rfl) (by rfl) (by decide) (by omega) (.slice Av (strs (outs L r i)).length cv) (strs (outs L r i)) (B (cls L r (r L[i]))) [.string (B (cls L r (r L[i])))] (fun _ => True) (fun _ => False) (by rfl) (by rfl) (by rfl) (fun _ h => h.elim) (fun _ _ => trivial) HR.out HBr.out HBr.out.size (by have := hjl.out; omega) ?_; intro v1 w4 hr4 hb4 _ _))
              have HR4 := Lib.hid hr4
              have HB4 := Lib.hid hb4
              clear hr4 hb4
              go_roundw
              case rel => exact ⟨i + 1, _, by omega, by go_num, rfl, by rw [HN.out, strs_one]; exact HR4.out, HB4.out⟩
              case measure => exact meas hlt hwi
            · have HN : Hid (outs L r (i + 1) = outs L r i) := by rw [Hid, HOI.out, hA]; rfl
              clear hA
              go_wp2_with fail
              go_roundw
              case rel => exact ⟨i + 1, _, by omega, by go_num, rfl, by rw [HN.out]; exact HR.out, HBr.out⟩
              case measure => exact meas hlt hwi
      · have hil : i = L.length := by omega
        subst hil
        go_wp2_with fail
        go_ret2
        exact ⟨_, rfl, by rw [hv.out]; exact Kd.R_lower HR.out HB3.out.size, below_then HB3.out HB3.out.size HBr.out⟩
end Go.Proofs.Ytonfbnbfbdcmhaa.Rf
namespace Go.Proofs.Ytonfbnbfbdcmhaa
open Go.RowKit Go.Proofs.YtonfbnbfbdcmhaaW.PrintWords Go.Proofs.YtonfbnbfbdcmhaaW.PrintMore Go.Maps
set_option linter.unusedVariables false
set_option linter.unusedSimpArgs false

theorem FreeAt.look2SortClasses {w : World} {m k : Nat} {L L' : List UInt8} (h : FreeAt w m k L L') (c : UInt8) (z : Int) (hz : vl c = z) :
    (c ∈ L' → (Instr.lookup 57 (.map (some m)) (.int .u8 z) true).run Try.prog w = .ok (.tuple #[.int .i64 ((Srt.place L c : Nat) : Int), .bool true]) w) ∧
    (c ∉ L' → (Instr.lookup 57 (.map (some m)) (.int .u8 z) true).run Try.prog w = .ok (.tuple #[.int .i64 0, .bool false]) w) := by
  obtain ⟨D, hown, hD⟩ := h
  have hr := vl_range c
  have hwf : (Lit.int .u8 z).wf = true := by simp [Lit.wf, show IntKind.u8.min = 0 from rfl, show IntKind.u8.max = 255 from rfl]; omega
  obtain ⟨v, ps, hrun, hv⟩ := hown.look_ok (int_keyed Try.underlying5) Try.underlying57 (show (zeroValue 3).run Try.prog w = .ok (.int .i64 0) w from by kernel_rfl) (zd := .lit (.int .i64 0)) (zp := []) (plainElem_int Try.underlying3 (by decide)) (keyOf_int_mk Try.underlying5 hwf)
  obtain ⟨h1, h2⟩ := hD c
  rw [hz] at h1 h2
  rw [h1] at hrun
  obtain ⟨x, rfl, hx, _⟩ := plainElem_int_inv Try.underlying3 hv
  have hx1 := congrArg Prod.fst hx
  simp only at hx1
  refine ⟨fun hc => ?_, fun hc => ?_⟩
  · rw [h2 hc] at hx1
    simp only [DataW.lit.injEq, Lit.int.injEq, true_and] at hx1
    rw [hrun, ← hx1, decide_eq_true hc]
  · rw [decide_eq_false hc] at h1 hrun
    rw [atKey_of_not_has h1] at hx1
    simp only [DataW.lit.injEq, Lit.int.injEq, true_and] at hx1
    rw [hrun, ← hx1]
attribute [local irreducible] Utf8.encode
set_option maxHeartbeats 4000000 in
set_option maxRecDepth 100000 in
theorem namedSortClasses_calls (hold : Nat → Bool) (p1 p2 : Value) {w : World} {N g m : Nat} {v1 v2 : Value} {s : Srt} {L : List UInt8} (h : SrAt w N g v1 v2 [.map (some m)] s) (hm : FreeAt w m 26 L L)
    (hh : ∀ c, c ∈ L → ∀ j, Calls Try.prog 70 #[.int .i64 ((Srt.place L c : Nat) : Int), p1, p2] (w.drewN j) fun e w' => e = .returned (.bool (hold (Srt.place L c))) ∧ ∃ k, w' = w.drewN k) :
    Calls Try.prog 55 #[.pointer (some ⟨g, 0, none⟩), .func (.func 70) #[] #[p1, p2]] w fun e w' => e = .returned (.string (B (sortL fun c => decide (c ∈ L) && hold (Srt.place L c)))) ∧ ∃ k, w' = w.drewN k := by
  have c2 := h.c2
  have HM := Lib.hid hm
  have HH := Lib.hid hh
  clear h hm hh
  obtain ⟨p, hp⟩ : ∃ p : UInt8 → Bool, p = fun c => decide (c ∈ L) && hold (Srt.place L c) := ⟨_, rfl⟩
  have HP : Hid (∀ c, p c = (decide (c ∈ L) && hold (Srt.place L c))) := fun c => by rw [hp]
  rw [← hp]
  clear hp
  go_enter Try.func55, Try.ntmps55
  go_wp2_with fail
  go_loopw [5, 6] (fun o c wr => ∃ i : Nat, i ≤ 26 ∧ c = .int .u8 (97 + i) ∧ o = .string (B (sortTo p i)) ∧ ∃ k, wr = w.drewN k) (fun _ c _ => 26 - (intOf c - 97).toNat)
  case atStart => exact ⟨0, by omega, rfl, rfl, 0, rfl⟩
  case round =>
    obtain ⟨i, hi, rfl, rfl, k, rfl⟩ := hrel
    by_cases hlt : i < 26
    · have HS := Lib.hid (sortTo_succ p i)
      have hlv : vl (letAt i) = 97 + (i : Nat) := letAt_vl (by omega)
      have hlo := FreeAt.look2SortClasses (w := w.drewN k) (HM.out.keep rfl) (letAt i) _ hlv
      have d2 : (w.drewN k).cell? ⟨g, 2, none⟩ = some (.map (some m)) := c2
      have henc : Utf8.encode (97 + (i : Int)) = B [letAt i] := by
        have := enc_small (let_lt (isLet_iff.mpr ⟨i, hlt, rfl⟩))
        rw [letAt_vl (by omega)] at this; exact this
      have happ : B (sortTo p i) ++ B [letAt i] = B (sortTo p i ++ [letAt i]) := B_append _ _
      have hsz : (B (sortTo p i)).size ≤ 26 := by rw [B_size]; have := sortTo_len p i; omega
      have hsz1 : (B [letAt i]).size = 1 := by rw [B_size]; rfl
      by_cases hc : letAt i ∈ L
      · have hrun := hlo.1 hc
        have hcall := HH.out (letAt i) hc k
        have HPi : Hid (p (letAt i) = hold (Srt.place L (letAt i))) := by rw [Hid, HP.out, decide_eq_true hc]; rfl
        clear hlo hlv hc
        rcases hq : hold (Srt.place L (letAt i)) with _ | _
        · have HF2 : Hid (sortTo p (i + 1) = sortTo p i) := by rw [Hid, HS.out, HPi.out, hq]; simp
          rw [hq] at hcall
          clear hq
          go_wp2_with fail
          refine hcall.mono ?_
          rintro e w3 ⟨rfl, k3, rfl⟩
          clear hcall hrun d2
          go_wp2_with fail
          go_roundw
          case rel => exact ⟨i + 1, by omega, by go_num, by rw [HF2.out], k3, rfl⟩
          case measure => simp [intOf]; omega
        · have HF2 : Hid (sortTo p (i + 1) = sortTo p i ++ [letAt i]) := by rw [Hid, HS.out, HPi.out, hq]; rfl
          rw [hq] at hcall
          clear hq
          go_wp2_with fail
          refine hcall.mono ?_
          rintro e w3 ⟨rfl, k3, rfl⟩
          clear hcall hrun d2
          go_wp2_with fail
          go_roundw
          case rel => exact ⟨i + 1, by omega, by go_num, by rw [HF2.out], k3, rfl⟩
          case measure => simp [intOf]; omega
      · have hrun := hlo.2 hc
        have HF2 : Hid (sortTo p (i + 1) = sortTo p i) := by rw [Hid, HS.out, HP.out, decide_eq_false hc]; simp
        clear hlo hlv hc
        go_wp2_with fail
        go_roundw
        case rel => exact ⟨i + 1, by omega, by go_num, by rw [HF2.out], k, rfl⟩
        case measure => simp [intOf]; omega
    · have HF2 : Hid (sortTo p i = sortL p) := by
        show _ = _
        rw [show i = 26 from by omega, sortTo_all]
      go_wp2_with fail
      go_ret
      exact ⟨by rw [HF2.out]; rfl, _, rfl⟩
end Go.Proofs.Ytonfbnbfbdcmhaa
namespace Go.Proofs.Ytonfbnbfbdcmhaa
open Go.RowKit Go.Proofs.YtonfbnbfbdcmhaaW.PrintWords Go.Proofs.YtonfbnbfbdcmhaaW.PrintLast Go.Proofs.YtonfbnbfbdcmhaaW.PrintMore Go.Proofs.Ytonfbnbfbdcmhaa.Pterm Go.Proofs.Ytonfbnbfbdcmhaa.PsoPlace Go.Proofs.Ytonfbnbfbdcmhaa.Rf
set_option linter.unusedVariables false
set_option linter.unusedSimpArgs false

def clsc_.T1 : Bool × List (List Nat × List Nat) := (true, [([], []), ([], []), ([0, 1], [0, 1]), ([], []), ([], []), ([4], [4]), ([5], [5]), ([6], [6]), ([], []), ([7, 8], [7, 8]), ([3, 9, 2], [3, 9]), ([2, 10], [2, 10]), ([11, 10, 0, 1, 2, 3, 4, 5, 6, 7, 8, 9, 10, 11], [11])])
def clsc_.B1 : List Nat := [0, 0, 3, 0, 0, 16, 48, 112, 0, 496, 1023, 2047, 4095]
theorem clsc_.tab1 : rtab .any (opsOf Try.f70 1) = clsc_.T1 := by kernel_rfl
theorem clsc_.bits1 : waitsOk clsc_.T1.2 clsc_.B1 = true := by kernel_rfl
set_option maxHeartbeats 4000000 in
set_option maxRecDepth 100000 in
theorem clsc_calls {w0 w : World} {g m N bx bc : Nat} {v1 v2 : Value} {s : Srt} {L : List UInt8} {c : UInt8} (h : SFB w0 w g m N v1 v2 s L bx) (ho : s.Ok) {x : Nat} (hx : x < s.n) (hn : s.n ≤ 1000000) (hc : c ∈ L) (hpn : Srt.place L c < s.n) (hb : w.cell? ⟨bc, 0, none⟩ = some (.int .u8 (vl c))) :
    Calls Try.prog 70 #[.int .i64 (x : Nat), .pointer (some ⟨bx, 0, none⟩), .pointer (some ⟨bc, 0, none⟩)] w fun e w' => e = .returned (.bool (((s.rt x : Nat) : Int) == ((s.rt (Srt.place L c) : Nat) : Int))) ∧ ∃ k, w' = w.drewN k := by
  have HO := Lib.hid ho
  have HC := Lib.hid hc
  go_enter Try.func70, Try.ntmps70
  go_wp2_with fail
  refine start_ (n := 13) (S := fun w' => w'.cell? ⟨bx, 0, none⟩ = some (.pointer (some ⟨g, 0, none⟩)) ∧ w'.cell? ⟨g, 2, none⟩ = some (.map (some m)) ∧ (Instr.lookup 57 (.map (some m)) (.int .u8 (vl c)) false).run Try.prog w' = .ok (.int .i64 ((Srt.place L c : Nat) : Int)) w' ∧ w'.cell? ⟨bc, 0, none⟩ = some (.int .u8 (vl c))) (ds := []) #[false, false, false, false, false, false, false, false, false, false, false, false, false] (by kernel_rfl) rfl rfl ⟨h.drew.cell, h.drew.sf.sr.c2, h.drew.sf.look HC.out, hb⟩ (fun hHeld => ?_)
  refine with_tabW clsc_.tab1 clsc_.bits1 (fun HT_ HW_ => ?_)
  have T : SFB w0 w.drew g m N v1 v2 s L bx ∧ w.drew.cell? ⟨bc, 0, none⟩ = some (.int .u8 (vl c)) := ⟨h.drew, hb⟩
  generalize hW3 : w.drew = W3 at T hHeld ⊢
  refine pure_ (i := 1) (N := some 6) (v := ?_) (a' := ?_) #[false, true, false, false, false, false, false, false, false, false, false, false, false] rfl rfl (any_of HT_.out (by kernel_rfl)) (fun _ _ _ h => h) (Or.inl ⟨by rfl, ?_⟩) ?_ ?_
  rotate_left; (intro w'; go_simp; with_reducible rfl); rotate_left; (simp only [Act.put, List.setIfInBounds_toArray, List.set_cons_zero, List.set_cons_succ, i64_w, i32_w]; rfl)
  refine take_ (i := 0) (N := some 5) (v := ?_) (a' := ?_) #[true, true, false, false, false, false, false, false, false, false, false, false, false] rfl rfl (take_ofW HT_.out HW_.out (by kernel_rfl)) (fun _ _ _ h => h) (Or.inl ⟨by rfl, ?_⟩) hHeld ?_ ?_
  rotate_left; (rintro w' ⟨s0, s1, s2, s3⟩; go_simp; with_reducible rfl); rotate_left; (simp only [Act.put, List.setIfInBounds_toArray, List.set_cons_zero, List.set_cons_succ, i64_w, i32_w]; rfl)
  refine take_ (i := 3) (N := some 8) (v := ?_) (a' := ?_) #[true, true, false, true, false, false, false, false, false, false, false, false, false] rfl rfl (take_ofW HT_.out HW_.out (by kernel_rfl)) (fun _ _ _ h => h) (Or.inl ⟨by rfl, ?_⟩) hHeld ?_ ?_
  rotate_left; (rintro w' ⟨s0, s1, s2, s3⟩; go_simp; with_reducible rfl); rotate_left; (simp only [Act.put, List.setIfInBounds_toArray, List.set_cons_zero, List.set_cons_succ, i64_w, i32_w]; rfl)
  refine take_ (i := 4) (N := some 9) (v := ?_) (a' := ?_) #[true, true, false, true, true, false, false, false, false, false, false, false, false] rfl rfl (take_ofW HT_.out HW_.out (by kernel_rfl)) (fun _ _ _ h => h) (Or.inl ⟨by rfl, ?_⟩) hHeld ?_ ?_
  rotate_left; (rintro w' ⟨s0, s1, s2, s3⟩; go_simp; with_reducible rfl); rotate_left; (simp only [Act.put, List.setIfInBounds_toArray, List.set_cons_zero, List.set_cons_succ, i64_w, i32_w]; rfl)
  refine pure_ (i := 5) (N := some 10) (v := ?_) (a' := ?_) #[true, true, false, true, true, true, false, false, false, false, false, false, false] rfl rfl (any_of HT_.out (by kernel_rfl)) (fun _ _ _ h => h) (Or.inl ⟨by rfl, ?_⟩) ?_ ?_
  rotate_left; (intro w'; go_simp; with_reducible rfl); rotate_left; (simp only [Act.put, List.setIfInBounds_toArray, List.set_cons_zero, List.set_cons_succ, i64_w, i32_w]; rfl)
  refine pure_ (i := 6) (N := some 11) (v := ?_) (a' := ?_) #[true, true, false, true, true, true, true, false, false, false, false, false, false] rfl rfl (any_of HT_.out (by kernel_rfl)) (fun _ _ _ h => h) (Or.inl ⟨by rfl, ?_⟩) ?_ ?_
  rotate_left; (intro w'; go_simp; with_reducible rfl); rotate_left; (simp only [Act.put, List.setIfInBounds_toArray, List.set_cons_zero, List.set_cons_succ, i64_w, i32_w]; rfl)
  refine take_ (i := 7) (N := some 12) (v := ?_) (a' := ?_) #[true, true, false, true, true, true, true, true, false, false, false, false, false] rfl rfl (take_ofW HT_.out HW_.out (by kernel_rfl)) (fun _ _ _ h => h) (Or.inl ⟨by rfl, ?_⟩) hHeld ?_ ?_
  rotate_left; (rintro w' ⟨s0, s1, s2, s3⟩; go_simp; with_reducible rfl); rotate_left; (simp only [Act.put, List.setIfInBounds_toArray, List.set_cons_zero, List.set_cons_succ, i64_w, i32_w]; rfl)
  refine take_ (i := 8) (N := some 13) (v := ?_) (a' := ?_) #[true, true, false, true, true, true, true, true, true, false, false, false, false] rfl rfl (take_ofW HT_.out HW_.out (by kernel_rfl)) (fun _ _ _ h => h) (Or.inl ⟨by rfl, ?_⟩) hHeld ?_ ?_
  rotate_left; (rintro w' ⟨s0, s1, s2, s3⟩; go_simp; with_reducible rfl); rotate_left; (simp only [Act.put, List.setIfInBounds_toArray, List.set_cons_zero, List.set_cons_succ, i64_w, i32_w]; rfl)
  refine take_ (i := 9) (N := some 14) (v := ?_) (a' := ?_) #[true, true, false, true, true, true, true, true, true, true, false, false, false] rfl rfl (take_ofW HT_.out HW_.out (by kernel_rfl)) (fun _ _ _ h => h) (Or.inl ⟨by rfl, ?_⟩) hHeld ?_ ?_
  rotate_left; (rintro w' ⟨s0, s1, s2, s3⟩; go_simp; with_reducible rfl); rotate_left; (simp only [Act.put, List.setIfInBounds_toArray, List.set_cons_zero, List.set_cons_succ, i64_w, i32_w]; rfl)
  refine one_ (i := 2) (N := some 7) #[true, true, true, true, true, true, true, true, true, true, false, false, false] rfl rfl (one_of HT_.out (by kernel_rfl)) (by decide) (fun K hK => ?_)
  refine goes_ Try.func45 (by kernel_rfl) rfl #[.pointer (some ⟨g, 0, none⟩), .int .i64 ((x : Nat) : Int)] (by rfl) rfl rfl (by simp only [List.map_toArray, List.map_cons, List.map_nil]; rfl) ?_
  with_reducible refine (root_calls T.1.sf.sr HO.out hx hn).mono ?_
  rintro e W4 ⟨rfl, rfl⟩
  refine ⟨_, rfl, ?_⟩
  clear hHeld
  refine hK.out _ _ ⟨T.1.cell, T.1.sf.sr.c2, T.1.sf.look HC.out, T.2⟩ (fun hHeld => ?_)
  clear hK K
  refine norm_ (a' := ?_) ?_ ?_
  rotate_left
  · show Act.put _ (some 7) _ = _
    simp only [Act.put, List.setIfInBounds_toArray, List.set_cons_zero, List.set_cons_succ, i64_w, i32_w]
    rfl
  refine one_ (i := 10) (N := some 15) #[true, true, true, true, true, true, true, true, true, true, true, false, false] rfl rfl (one_of HT_.out (by kernel_rfl)) (by decide) (fun K hK => ?_)
  refine goes_ Try.func45 (by kernel_rfl) rfl #[.pointer (some ⟨g, 0, none⟩), .int .i64 ((Srt.place L c : Nat) : Int)] (by rfl) rfl rfl (by simp only [List.map_toArray, List.map_cons, List.map_nil]; rfl) ?_
  with_reducible refine (root_calls T.1.sf.sr HO.out hpn hn).mono ?_
  rintro e W4 ⟨rfl, rfl⟩
  refine ⟨_, rfl, ?_⟩
  clear hHeld
  refine hK.out _ _ ⟨T.1.cell, T.1.sf.sr.c2, T.1.sf.look HC.out, T.2⟩ (fun hHeld => ?_)
  clear hK K
  refine norm_ (a' := ?_) ?_ ?_
  rotate_left
  · show Act.put _ (some 15) _ = _
    simp only [Act.put, List.setIfInBounds_toArray, List.set_cons_zero, List.set_cons_succ, i64_w, i32_w]
    rfl
  refine pure_ (i := 11) (N := some 16) (v := ?_) (a' := ?_) #[true, true, true, true, true, true, true, true, true, true, true, true, false] rfl rfl (any_of HT_.out (by kernel_rfl)) (fun _ _ _ h => h) (Or.inl ⟨by rfl, ?_⟩) ?_ ?_
  rotate_left; (intro w'; go_simp; with_reducible rfl); rotate_left; (simp only [Act.put, List.setIfInBounds_toArray, List.set_cons_zero, List.set_cons_succ, i64_w, i32_w]; rfl)
  refine pure_ (i := 12) (N := some 4) (v := ?_) (a' := ?_) #[true, true, true, true, true, true, true, true, true, true, true, true, true] rfl rfl (any_of HT_.out (by kernel_rfl)) (fun _ _ _ h => h) (Or.inl ⟨by rfl, ?_⟩) ?_ ?_
  rotate_left; (intro w'; go_simp; with_reducible rfl); rotate_left; (simp only [Act.put, List.setIfInBounds_toArray, List.set_cons_zero, List.set_cons_succ, i64_w, i32_w]; rfl)
  refine done_ (done_of HT_.out (by kernel_rfl)) ?_
  go_wp2_with fail
  go_ret
  exact ⟨rfl, 1, hW3.symm⟩
theorem idx_in (l : List UInt8) (c : UInt8) : (c ∈ l → 0 ≤ Lib.indexByte l c) ∧ (c ∉ l → Lib.indexByte l c = -1) := by
  induction l with
  | nil => exact ⟨fun h => by simp at h, fun _ => rfl⟩
  | cons b l ih =>
    unfold Lib.indexByte
    by_cases hb : b = c
    · subst hb
      simp
    · have hbe : (b == c) = false := by simpa using hb
      rw [hbe]
      refine ⟨fun h => ?_, fun h => ?_⟩
      · have hm : c ∈ l := by rcases List.mem_cons.mp h with q | q; exact absurd q.symm hb; exact q
        have := ih.1 hm
        have hne : (Lib.indexByte l c == -1) = false := by rw [beq_eq_false_iff_ne]; omega
        simp only [hne]
        simp
        omega
      · have := ih.2 (fun q => h (List.mem_cons_of_mem _ q))
        rw [this]; rfl
structure PC (w3 wr : World) (g : Nat) (L : List UInt8) (r : UInt8 → Nat) (i : Nat) (v : Value) : Prop where
  box : ∃ t, wr.heap[w3.heap.size + 1]? = some (.cells #[.pointer (some ⟨g, 0, none⟩)] t (0, 0))
  row : w3.heap.size + 2 < wr.heap.size ∧ ∀ j, (hj : j < L.length) → wr.cell? ⟨w3.heap.size + 2, j, none⟩ = some (.int .u8 (vl L[j]))
  out : Kd.R Kd.string 9 wr w3.heap.size (fun _ => True) v (strs (outs L r i))
  own : ∀ k, v.ownBlock = some k → k ≠ w3.heap.size + 1 ∧ k ≠ w3.heap.size + 2
  below : Below w3.heap.size w3 wr
section
variable {w0 w3 wr w' : World} {g m N i : Nat} {v v1 v2 : Value} {L : List UInt8} {r : UInt8 → Nat} {s : Srt}
theorem PC.size (h : PC w3 wr g L r i v) : w3.heap.size + 3 ≤ wr.heap.size := by have := h.row.1; omega
theorem PC.later (h : PC w3 wr g L r i v) (hb : Below wr.heap.size wr w') : PC w3 w' g L r i v :=
  ⟨by obtain ⟨t, k⟩ := h.box; exact ⟨t, blk_below k hb⟩, ⟨Nat.lt_of_lt_of_le h.row.1 hb.size, fun j hj => (World.cell?_of_block (hb.block _ h.row.1)).trans (h.row.2 j hj)⟩, Kd.R_below h.out hb, h.own, below_then h.below h.below.size hb⟩
theorem PC.at_ (h : PC w3 wr g L r i v) {j : Nat} (hj : j < L.length) : wr.cell? ⟨w3.heap.size + 2, j, none⟩ = some (.int .u8 (vl L[j])) := h.row.2 j hj
theorem PC.sfb (h : PC w3 wr g L r i v) (k : SF w0 w3 g m N v1 v2 s L) : SFB w0 wr g m N v1 v2 s L (w3.heap.size + 1) := ⟨k.later h.below, h.box⟩
theorem PC.app (h : PC w3 wr g L r i v) {x : List UInt8} {u : Value} (hr : Kd.R Kd.string 9 w' w3.heap.size (fun _ => True) u (strs (outs L r i) ++ [B x])) (hb : Below w3.heap.size w3 w') (hg : wr.grownBy w' v.ownBlock)
    (ha : u.ownBlock = v.ownBlock ∨ ∃ b, u.ownBlock = some b ∧ wr.heap.size ≤ b) (hn : outs L r (i + 1) = outs L r i ++ [x]) : PC w3 w' g L r (i + 1) u := by
  have hs := h.size
  have n1 : some (w3.heap.size + 1) ≠ v.ownBlock := fun e => (h.own _ e.symm).1 rfl
  have n2 : some (w3.heap.size + 2) ≠ v.ownBlock := fun e => (h.own _ e.symm).2 rfl
  refine ⟨?_, ?_, by rw [hn, strs_one]; exact hr, fun k hk => ?_, hb⟩
  · obtain ⟨t, k⟩ := h.box; exact ⟨t, (hg.block _ (by omega) n1).trans k⟩
  · exact ⟨Nat.lt_of_lt_of_le h.row.1 hg.size, fun j hj => (World.cell?_of_block (hg.block (w3.heap.size + 2) (by omega) n2)).trans (h.row.2 j hj)⟩
  · rcases ha with q | ⟨b, q, hbb⟩
    · exact h.own k (by rw [← q]; exact hk)
    · rw [hk] at q; injection q with q; subst q; exact ⟨by omega, by omega⟩
theorem PC.skip (h : PC w3 wr g L r i v) (hn : outs L r (i + 1) = outs L r i) : PC w3 wr g L r (i + 1) v := ⟨h.box, h.row, by rw [hn]; exact h.out, h.own, h.below⟩
end
set_option maxHeartbeats 8000000 in
set_option maxRecDepth 100000 in
theorem cls_prog (l : List UInt8) (w : World) (hl : l.length ≤ 140737488351232) :
    Calls Try.prog 32 #[.string (B l)] w fun e w' => ∃ v, e = .returned (.tuple #[v, .bool (readOk l)]) ∧ Kd.R Kd.string 9 w' w.heap.size (fun _ => True) v (clsV l) ∧ Below w.heap.size w w' := by
  go_enter Try.func32, Try.ntmps32
  go_wp2_with fail
  refine (read_calls l w hl).mono ?_
  rintro e w1 ⟨hb, p, rfl, hpp⟩
  rcases hok : readOk l with _ | _
  · have hv : Hid (clsV l = []) := by simp [Hid, clsV, hok]
    have HO := Lib.hid hok
    clear hok hpp
    go_wp2_with fail
    go_ret2
    exact ⟨.slice none 0 0, by rw [HO.out]; rfl, by rw [hv.out]; exact Kd.R_nil _ _ _ _ _, hb⟩
  obtain ⟨b, rfl, hli⟩ := hpp hok
  have hso := sortsOf_calls (parsed l).1 w1 w.heap.size b (read_good hok).2.2.1 hli (by have := (read_good hok).2.2.2; omega)
  have HG := Lib.hid (read_good hok)
  have HLI := Lib.hid hli
  have HB1 := Lib.hid hb
  have hv : Hid (clsV l = strs (outs (sortL (parsed l).1.fr) (rtL (parsed l).1) (sortL (parsed l).1.fr).length)) := by simp [Hid, clsV, hok]
  have HRL : Hid (∀ d, rtL (parsed l).1 d = (Srt.of (parsed l).1).rt (Srt.place (sortL (parsed l).1.fr) d)) := fun d => rfl
  have HO := Lib.hid (Srt.of_ok (read_good hok).2.2.1)
  have HOK := Lib.hid hok
  have hn : (Srt.of (parsed l).1).n ≤ 1000000 := by have := HO.out.2; have := (read_good hok).2.2.2; omega
  clear hok hpp hli hb
  go_wp2_with fail
  refine hso.mono ?_
  rintro e w3 ⟨g, m, N, v1, v2, rfl, hs, hm, hb3, hg⟩
  have HT : Hid (SF w w3 g m N v1 v2 (Srt.of (parsed l).1) (sortL (parsed l).1.fr)) := ⟨hs, hm, below_then HB1.out HB1.out.size hb3⟩
  obtain ⟨W4, hW4⟩ : ∃ W4, W4 = (w3.alloc (.cells #[] 9)).alloc (.cells #[.pointer (some ⟨g, 0, none⟩)] 52) := ⟨_, rfl⟩
  have hb4 : Below w3.heap.size w3 W4 := by rw [hW4]; exact ((Below.refl _ _).alloc (Nat.le_refl _) _).alloc (by simp) _
  have hz4 : W4.heap.size = w3.heap.size + 2 := by rw [hW4]; simp
  have hbx : W4.heap[w3.heap.size + 1]? = some (.cells #[.pointer (some ⟨g, 0, none⟩)] 52 (0, 0)) := by
    rw [hW4]
    have := heap_alloc_new (w3.alloc (.cells #[] 9)) (.cells #[.pointer (some ⟨g, 0, none⟩)] 52)
    simpa using this
  have hr0 : Kd.R Kd.string 9 W4 w3.heap.size (fun _ => True) (.slice (some ⟨w3.heap.size, 0, none⟩) 0 0) (strs (outs (sortL (parsed l).1.fr) (rtL (parsed l).1) 0)) := by
    rw [hW4]
    exact Kd.R_below (row_newS w3 w3.heap.size [] (Nat.le_refl _) (by simp)) ((Below.refl _ _).alloc (Nat.le_refl _) _)
  have hfr := free_any 61 (parsed l).1 W4 w.heap.size b (by have := HG.out.2.2.2; omega) (by omega) HG.out.2.2.1 ((HLI.out.below hb3).below hb4)
  have HF : Hid (hb4 = hb4 ∧ hz4 = hz4) := ⟨rfl, rfl⟩
  go_upto_region 5 with fail
  rw [← hW4]
  have HW4 : Hid (∀ x W2, W2 = Lib.bytesWorld (W4.drewN x) 5 (B (sortL (parsed l).1.fr)) → PC w3 W2 g (sortL (parsed l).1.fr) (rtL (parsed l).1) 0 (.slice (some ⟨w3.heap.size, 0, none⟩) 0 0)) := by
    rintro x W2 rfl
    have hb2 := below_bytes (W4.drewN x) 5 (B (sortL (parsed l).1.fr))
    have hs2 := Lib.bytesWorld_size (W4.drewN x) 5 (B (sortL (parsed l).1.fr))
    have hz : (W4.drewN x).heap.size = w3.heap.size + 2 := hz4
    have hb5 := pw_below_drewN hb4 x
    refine ⟨⟨_, (hb2.block _ (by omega)).trans hbx⟩, ⟨by omega, fun i hi => ?_⟩, Kd.R_below (w := W4.drewN x) (Kd.R_below hr0 (pw_below_drewN (Below.refl _ _) x)) hb2, fun k hk => ?_, below_then hb5 hb5.size hb2⟩
    · have := Lib.bytesWorld_cell (W4.drewN x) 5 (B (sortL (parsed l).1.fr)) i (by rw [B_size]; exact hi)
      rw [hz, B_data] at this
      rw [this]
      simp [List.getD, hi, vl]
    · have hk' : w3.heap.size = k := by simpa [Value.ownBlock] using hk
      omega
  have HZ4 := Lib.hid hz4
  clear hW4 hb4 hz4 hbx hr0 hs hm hb3 hg hso HLI HB1 HF
  go_wp2_with fail
  refine hfr.mono ?_
  rintro e W5 ⟨rfl, x, rfl⟩
  clear hfr
  go_wp2_with fail
  refine (letters_calls (parsed l).1.fr _).mono ?_
  rintro e w' ⟨rfl, rfl⟩
  have HLET : Hid (∀ c, c ∈ sortL (parsed l).1.fr → isLet c = true) := fun c hc => (sort_mem.mp hc).1
  have HSF : Hid (∀ h, sortL (fun c => decide (c ∈ sortL (parsed l).1.fr) && h c) = (sortL (parsed l).1.fr).filter h) := fun h => sort_filter _ h
  have HND : Hid ((sortL (parsed l).1.fr).Nodup) := sort_nodup _
  have HLL : Hid ((sortL (parsed l).1.fr).length ≤ 26) := sort_len _
  have hcv := Lib.run_convert_string_bytes (P := Try.prog) (W4.drewN x) 9 84 5 (B (sortL (parsed l).1.fr)) Try.underlying9 Try.underlying84 Try.underlying5
  generalize sortL (parsed l).1.fr = L at HT HO hv HRL HW4 HLET HSF HND HLL hcv ⊢
  generalize rtL (parsed l).1 = r at hv HRL HW4
  generalize Srt.of (parsed l).1 = s at HT HO HRL hn
  have hBz : (B L).size = L.length := B_size L
  rw [hBz] at hcv
  obtain ⟨W2, hW2⟩ : ∃ W2, W2 = Lib.bytesWorld (W4.drewN x) 5 (B L) := ⟨_, rfl⟩
  rw [← hW2] at hcv
  have HP := Lib.hid (HW4.out x W2 hW2)
  have hz5 : (W4.drewN x).heap.size = w3.heap.size + 2 := HZ4.out
  rw [hz5] at hcv
  clear hW2 HW4 hz5 HZ4
  go_wp2_with fail
  go_loopw [7, 8, 27] (fun o d i wr => ∃ (j : Nat) (v : Value), j ≤ L.length ∧ i = .int .i64 j ∧ o = v ∧ d = .string (B (outs L r j).flatten) ∧ PC w3 wr g L r j v) (fun _ _ i _ => L.length - (intOf i).toNat)
  case atStart => exact ⟨0, _, Nat.zero_le _, rfl, rfl, rfl, HP.out⟩
  case round =>
    obtain ⟨j, v, hj, rfl, rfl, rfl, hpc⟩ := hrel
    obtain ⟨Av, cv, rfl⟩ := Kd.R_slice hpc.out
    have HPC := Lib.hid hpc
    clear hpc
    by_cases hlt : j < L.length
    · have hlt4 : (j : Int) < (L.length : Int) := by omega
      have hwj : wrap64 ((j : Int) + 1) = (j : Int) + 1 := wrap_id (by omega) (by have := HLL.out; omega)
      have hcell := HPC.out.at_ hlt
      have hLJ : L[j] ∈ L := List.getElem_mem hlt
      have HPL : Hid (Srt.place L L[j] < s.n) := by have := Srt.place_lt hLJ; have := HO.out.2; show _ < _; omega
      have HOS := Lib.hid (outs_succ (r := r) hlt)
      have HME := Lib.hid (outs_mem (r := r) hLJ j (by omega))
      have HFL : Hid ((outs L r j).flatten.length ≤ 1000) := by
        have h1 := outs_flat (L := L) (r := r) j
        have h2 : j * L.length ≤ 26 * 26 := Nat.mul_le_mul (by have := HLL.out; omega) HLL.out
        show _ ≤ _; omega
      have HLJ := Lib.hid hLJ
      clear hLJ
      generalize L[j] = c at hcell HPL HOS HME HLJ
      obtain ⟨wr1, hwr1⟩ : ∃ wr1, wr1 = wr.alloc (.cells #[.int .u8 (vl c)] 5) := ⟨_, rfl⟩
      obtain ⟨bc, hbc⟩ : ∃ bc, bc = wr.heap.size := ⟨_, rfl⟩
      have HP1 : Hid (PC w3 wr1 g L r j (.slice Av (strs (outs L r j)).length cv)) := by rw [hwr1]; exact HPC.out.later ((Below.refl _ _).alloc (Nat.le_refl _) _)
      have hb1 : wr1.cell? ⟨bc, 0, none⟩ = some (.int .u8 (vl c)) := by rw [hwr1, hbc]; exact blk_cell (heap_alloc_new wr _) 0
      have HB1 := Lib.hid hb1
      have HW1 := Lib.hid hwr1
      have HBC := Lib.hid hbc
      clear hwr1 hbc hb1 hcv
      go_upto_region 8 with fail
      rw [← HW1.out, ← HBC.out]
      clear hcell HW1 HBC
      have hb1 := HB1.out
      have hix := idx_calls (outs L r j).flatten c wr1
      have hii := idx_in (outs L r j).flatten c
      rcases hA : ahead L r j (r c) with _ | _
      · have hni : c ∉ (outs L r j).flatten := fun h => by rw [HME.out, hA] at h; cases h
        have HN : Hid (outs L r (j + 1) = outs L r j ++ [cls L r (r c)]) := by rw [Hid, HOS.out, hA]; rfl
        rw [hii.2 hni] at hix
        have hd0 := (HP1.out.sfb HT.out).cell
        have HCL : Hid (sortL (fun d => decide (d ∈ L) && (((s.rt (Srt.place L d) : Nat) : Int) == ((s.rt (Srt.place L c) : Nat) : Int))) = cls L r (r c)) := by
          rw [Hid, HSF.out]
          unfold cls
          refine List.filter_congr fun d _ => ?_
          rw [HRL.out d, HRL.out c, Bool.eq_iff_iff, beq_iff_eq, beq_iff_eq]
          exact Int.ofNat_inj
        have hnm := namedSortClasses_calls (fun x => ((s.rt x : Nat) : Int) == ((s.rt (Srt.place L c) : Nat) : Int)) (.pointer (some ⟨w3.heap.size + 1, 0, none⟩)) (.pointer (some ⟨bc, 0, none⟩)) (HP1.out.sfb HT.out).sf.sr (HP1.out.sfb HT.out).sf.mp (fun d hd k =>
          (clsc_calls ((HP1.out.sfb HT.out).drewN k) HO.out.1 (x := Srt.place L d) (by have := Srt.place_lt hd; have := HO.out.2; omega) hn HLJ.out HPL.out HB1.out).mono fun e w' ⟨h1, k2, h2⟩ => ⟨h1, k + k2, by rw [h2, drewN_comp]⟩)
        clear hii hni hA
        go_wp2_with fail
        refine hix.mono ?_
        rintro e w' ⟨rfl, rfl⟩
        clear hix
        go_wp2_with fail
        refine hnm.mono ?_
        rintro e w5 ⟨rfl, k5, rfl⟩
        clear hnm
        rw [HCL.out]
        have HP5 := Lib.hid (HP1.out.later (pw_below_drewN (Below.refl _ _) k5))
        generalize wr1.drewN k5 = w5 at HP5 ⊢
        have hzc : (B (cls L r (r c))).size ≤ 26 := by rw [B_size]; have := cls_len (L := L) (r := r) (x := r c); have := HLL.out; omega
        have hzf : (B (outs L r j).flatten).size ≤ 1000 := by rw [B_size]; exact HFL.out
        have hjl : Hid ((strs (outs L r j)).length ≤ 26) := by show _ ≤ _; rw [strs_len]; have := outs_len (L := L) (r := r) j; have := HLL.out; omega
        have HFN : Hid (B (outs L r (j + 1)).flatten = B (outs L r j).flatten ++ B (cls L r (r c))) := by rw [Hid, HN.out, B_append, List.flatten_append]; simp
        clear hd0 hb1
        go_wp2_with (first | ((with_reducible refine gate_dst (N := 41) rfl ?_); refine Kd.R_append Kd.string (w0 := w3) (W := w5) w3.heap.size (by rfl) _ _ 30 9 (.string ⟨#[]⟩) 16 (by rfl) Try.underlying30 (by kernel_rfl) (by rfl) (by decide) (by omega) (.slice Av (strs (outs L r j)).length cv) (strs (outs L r j)) (B (cls L r (r c))) [.string (B (cls L r (r c)))] (fun _ => True) (fun _ => False) (by rfl) (by rfl) (by rfl) (fun _ h => h.elim) (fun _ _ => trivial) HP5.out.out HP5.out.below HP5.out.below.size (by have := hjl.out; omega) ?_; intro u1 w6 hr6 hb6 hg6 ha6))
        have HP6 := Lib.hid (HP5.out.app hr6 hb6 hg6 ha6 HN.out)
        clear hr6 hb6 hg6 ha6
        go_roundw
        case rel => exact ⟨j + 1, _, by omega, by go_num, rfl, by rw [HFN.out], HP6.out⟩
        case measure => exact meas hlt hwj
      · have hin : c ∈ (outs L r j).flatten := HME.out.mpr hA
        have HN : Hid (outs L r (j + 1) = outs L r j) := by rw [Hid, HOS.out, hA]; rfl
        have h0 := hii.1 hin
        have HP6 := Lib.hid (HP1.out.skip HN.out)
        generalize Lib.indexByte (outs L r j).flatten c = K at hix h0
        clear hii hin hA
        go_wp2_with fail
        refine hix.mono ?_
        rintro e w' ⟨rfl, rfl⟩
        clear hix
        go_wp2_with fail
        go_roundw
        case rel => exact ⟨j + 1, _, by omega, by go_num, rfl, by rw [HN.out], HP6.out⟩
        case measure => exact meas hlt hwj
    · have hjl : j = L.length := by omega
      subst hjl
      go_wp2_with fail
      go_ret2
      exact ⟨_, by rw [HOK.out]; rfl, by rw [hv.out]; exact Kd.R_lower HPC.out.out HT.out.below.size, below_then HT.out.below HT.out.below.size HPC.out.below⟩
end Go.Proofs.Ytonfbnbfbdcmhaa
