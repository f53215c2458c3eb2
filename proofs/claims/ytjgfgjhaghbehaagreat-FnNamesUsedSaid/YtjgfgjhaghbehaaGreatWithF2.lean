/- Several texts in one.
   The walk of isName: whether a text is one name.
   The walk of withFree: a process, and whether some names are free in it. -/
import Derived.Test.YtjgfgjhaghbehaaGreatFreeW
import Derived.Test.YtjgfgjhaghbehaaGreatBase
import Derived.Test.YtjgfgjhaghbehaaGreatReads
namespace Go.Proofs.YtjgfgjhaghbehaaGreat
open Go.RowKit Go.Proofs.YtjgfgjhaghbehaaGreatW.PrintWords Go.Proofs.YtjgfgjhaghbehaaGreatW.PrintMore
set_option linter.unusedVariables false
set_option linter.unusedSimpArgs false

def oneB : List UInt8 → Bool | [c] => isLet c | _ => false
theorem oneB_len {l : List UInt8} (h : l.length ≠ 1) : oneB l = false := by
  match l, h with
  | [], _ => rfl
  | [_], h => exact absurd rfl h
  | _ :: _ :: _, _ => rfl
theorem oneB_iff {l : List UInt8} : oneB l = true ↔ ∃ c, l = [c] ∧ isLet c = true := by
  match l with
  | [] => simp [oneB]
  | [c] => simp [oneB]
  | _ :: _ :: _ => simp [oneB]

set_option maxHeartbeats 1000000 in
theorem isName_calls (l : List UInt8) (w : World) (hl : l.length ≤ 140737488351232) : Calls Tryz.prog 45 #[.string (B l)] w fun e w' => e = .returned (.bool (oneB l)) ∧ w = w' := by
  have hz : (B l).size = l.length := B_size l
  by_cases h1 : l.length = 1
  · obtain ⟨c, rfl⟩ := List.length_eq_one_iff.mp h1
    have hc := byte_of [c] 0 (by simp)
    clear h1
    have hz : (B [c]).size = 1 := B_size [c]
    go_enter Tryz.func45, Tryz.ntmps45
    go_wp2_with fail
    refine (isLetter_calls c _).mono ?_
    rintro e w' ⟨rfl, rfl⟩
    go_wp2_with fail
    go_ret
    exact ⟨rfl, rfl⟩
  · have HO := Lib.hid (oneB_len h1)
    have e1 : ((l.length : Int) == 1) = false := by rw [beq_eq_false_iff_ne]; omega
    go_enter Tryz.func45, Tryz.ntmps45
    go_wp2_with fail
    go_ret
    exact ⟨by rw [HO.out]; rfl, rfl⟩

end Go.Proofs.YtjgfgjhaghbehaaGreat
namespace Go.Proofs.YtjgfgjhaghbehaaGreat
open Go.RowKit Go.Proofs.YtjgfgjhaghbehaaGreatW.PrintWords Go.Proofs.YtjgfgjhaghbehaaGreatW.PrintMore Go.Proofs.YtjgfgjhaghbehaaGreat.Pterm
set_option linter.unusedVariables false
set_option linter.unusedSimpArgs false

def Words (w : World) (bk : Nat) (xs : List (List UInt8)) : Prop := bk < w.heap.size ∧ ∀ (j : Nat) x, xs[j]? = some x → w.cell? ⟨bk, j, none⟩ = some (.string (B x))
theorem words_new (w : World) (xs : List (List UInt8)) (e : TypeId) : Words (w.alloc (.cells (xs.map fun x => .string (B x)).toArray e)) w.heap.size xs := by
  refine ⟨by simp, fun j x hj => ?_⟩
  rw [blk_cell (heap_alloc_new w _) j]
  simp [hj]
def freeB (p x : List UInt8) : Bool := oneB x && (parsed p).1.fr (x.headD 0)
def withB (p : List UInt8) (xs : List (List UInt8)) : Bool := readOk p && xs.all (freeB p)
def WithPost (w : World) (p : List UInt8) (xs : List (List UInt8)) (e : Ending) (w' : World) : Prop :=
  Below w.heap.size w w' ∧ ∃ q, e = .returned (.tuple #[.pointer q, .bool (withB p xs)]) ∧ (withB p xs = true → ∃ b, q = some ⟨b, 0, none⟩ ∧ Lies w' w.heap.size (parsed p).1 b)

set_option maxHeartbeats 4000000 in
theorem withFree_calls (p : List UInt8) (bk c : Nat) (xs : List (List UInt8)) (w : World) (hp : p.length ≤ 140737488351232) (hx : Words w bk xs) (hn : xs.length ≤ 1000) (hlen : ∀ x, x ∈ xs → x.length ≤ 140737488351232) :
    Calls Tryz.prog 21 #[.string (B p), .slice (some ⟨bk, 0, none⟩) xs.length c] w (WithPost w p xs) := by
  have HX := Lib.hid hx
  have HLE := Lib.hid hlen
  clear hx hlen
  go_enter Tryz.func21, Tryz.ntmps21
  go_wp2_with fail
  refine (read_calls p w hp).mono ?_
  rintro e w1 ⟨hb, q, rfl, hq⟩
  rcases hok : readOk p with _ | _
  · have hv : Hid (withB p xs = false) := by simp [Hid, withB, hok]
    clear hok hq
    go_wp2_with fail
    go_ret2
    exact ⟨hb, _, by rw [hv.out]; rfl, fun h => by rw [hv.out] at h; cases h⟩
  obtain ⟨b, rfl, hli⟩ := hq hok
  have hv : Hid (withB p xs = xs.all (freeB p)) := by simp [Hid, withB, hok]
  have HL := Lib.hid hli
  have HB := Lib.hid hb
  have HG := Lib.hid (read_good hok)
  clear hok hq hli hb
  go_wp2_with fail
  go_loopw [19] (fun i wr => ∃ k : Nat, k ≤ xs.length ∧ i = .int .i64 k ∧ Hid ((xs.take k).all (freeB p) = true) ∧ ∃ m, wr = w1.drewN m) (fun i _ => xs.length - (intOf i).toNat)
  case atStart => exact ⟨0, Nat.zero_le _, rfl, rfl, 0, rfl⟩
  case round =>
    obtain ⟨k, hk, rfl, HA, m, rfl⟩ := hrel
    by_cases hlt : k < xs.length
    · have hc : (w1.drewN m).cell? ⟨bk, k, none⟩ = some (.string (B xs[k])) := (HB.out.cell HX.out.1).trans (HX.out.2 k _ (List.getElem?_eq_getElem hlt))
      have hl : xs[k].length ≤ 140737488351232 := HLE.out _ (List.getElem_mem hlt)
      have HS : Hid ((xs.take (k + 1)).all (freeB p) = freeB p xs[k]) := by
        show _ = _
        rw [List.take_succ_eq_append_getElem hlt, List.all_append, HA.out]
        simp
      have HN : Hid (freeB p xs[k] = false → xs.all (freeB p) = false) := fun h => by
        rw [List.all_eq_false]; exact ⟨xs[k], List.getElem_mem hlt, by rw [h]; decide⟩
      generalize xs[k] = a at hc hl HS HN
      have HLA := Lib.hid hl
      clear hl
      by_cases h1 : oneB a = true
      · obtain ⟨d, rfl, hd⟩ := oneB_iff.mp h1
        have HD := Lib.hid hd
        have n1 := fun W => isName_calls [d] W (by simp)
        rw [h1] at n1
        have hz : (B [d]).size = 1 := B_size [d]
        have hby := byte_of [d] 0 (by simp)
        have hpi := set_test (parsed p).1.fr hd
        rcases hfr : (parsed p).1.fr d with _ | _
        · have hz0 : (Go.bits .and .u32 (setI (parsed p).1.fr) (setI (eqS d)) == 0) = true := by rw [beq_iff_eq]; exact hpi.mpr hfr
          have HF : Hid (xs.all (freeB p) = false) := HN.out (by simp [freeB, hfr])
          clear h1 hd hpi hfr HN HS
          go_wp2_with fail
          obtain ⟨W, hW⟩ : ∃ W, W = w1.drewN m := ⟨_, rfl⟩
          rw [← hW]
          have HWd := Lib.hid hW
          have HLW := Lib.hid (show Lies W w.heap.size (parsed p).1 b by rw [hW]; exact HL.out.drewN m)
          clear hW hc
          go_quiet (first | (go_at_call 45; exact Calls.quiet_of_same ((n1 _).mono fun _ _ h => ⟨h.1, h.2.symm⟩)) | (go_at_call 47; exact Calls.quiet_of_same (bit_same HD.out _)) | (go_at_call 46; exact Calls.quiet_of (free_any 61 _ _ _ _ (by have := HG.out.2.2.2; omega) (by omega) HG.out.2.2.1 (HLW.out.drewN _))))
          go_wp2_with fail
          go_ret2
          exact ⟨by rw [HWd.out]; exact pw_below_drewN (pw_below_drewN HB.out _) _, _, by rw [hv.out, HF.out]; rfl, fun h => by rw [hv.out, HF.out] at h; cases h⟩
        · have hz0 : (Go.bits .and .u32 (setI (parsed p).1.fr) (setI (eqS d)) == 0) = false := by rw [beq_eq_false_iff_ne, ne_eq, hpi, hfr]; decide
          have HS2 : Hid ((xs.take (k + 1)).all (freeB p) = true) := by
            show _ = _
            rw [HS.out]; simp [freeB, h1, hfr]
          clear h1 hd hpi hfr HN HS
          go_wp2_with fail
          obtain ⟨W, hW⟩ : ∃ W, W = w1.drewN m := ⟨_, rfl⟩
          rw [← hW]
          have HWd := Lib.hid hW
          have HLW := Lib.hid (show Lies W w.heap.size (parsed p).1 b by rw [hW]; exact HL.out.drewN m)
          clear hW hc
          go_quiet (first | (go_at_call 45; exact Calls.quiet_of_same ((n1 _).mono fun _ _ h => ⟨h.1, h.2.symm⟩)) | (go_at_call 47; exact Calls.quiet_of_same (bit_same HD.out _)) | (go_at_call 46; exact Calls.quiet_of (free_any 61 _ _ _ _ (by have := HG.out.2.2.2; omega) (by omega) HG.out.2.2.1 (HLW.out.drewN _))))
          go_wp2_with fail
          go_roundw
          case rel => exact ⟨k + 1, by omega, by go_num, HS2, _, by rw [HWd.out]; exact drewN_two _ _ _⟩
          case measure => simp [intOf]; omega
      · have h1' : oneB a = false := by simpa using h1
        have n1 := fun W => isName_calls a W HLA.out
        rw [h1'] at n1
        have HF : Hid (xs.all (freeB p) = false) := HN.out (by simp [freeB, h1'])
        clear h1 h1' HN HS
        go_wp2_with fail
        obtain ⟨W, hW⟩ : ∃ W, W = w1.drewN m := ⟨_, rfl⟩
        rw [← hW]
        have HWd := Lib.hid hW
        have HLW := Lib.hid (show Lies W w.heap.size (parsed p).1 b by rw [hW]; exact HL.out.drewN m)
        clear hW hc
        go_quiet (first | (go_at_call 45; exact Calls.quiet_of_same ((n1 _).mono fun _ _ h => ⟨h.1, h.2.symm⟩)))
        go_wp2_with fail
        go_ret2
        exact ⟨by rw [HWd.out]; exact pw_below_drewN (pw_below_drewN HB.out _) _, _, by rw [hv.out, HF.out]; rfl, fun h => by rw [hv.out, HF.out] at h; cases h⟩
    · have HF : Hid (xs.all (freeB p) = true) := by
        show _ = _
        have h := HA.out
        rw [List.take_of_length_le (by omega : xs.length ≤ k)] at h; exact h
      go_wp2_with fail
      go_ret2
      exact ⟨pw_below_drewN HB.out m, _, by rw [hv.out, HF.out]; rfl, fun _ => ⟨b, rfl, HL.out.drewN m⟩⟩

end Go.Proofs.YtjgfgjhaghbehaaGreat
