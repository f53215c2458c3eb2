/- The law FnExactSortText, walked: the program's answer is the reference's. (Written by gen_endtxt.py; strings.Repeat off the shelf.) -/
import Derived.Test.YtjgfgjhaghbehaaGreatZLevelOf
import Derived.Shelf.Strings.Repeat
import Derived.Shelf.Lay
import Derived.Test.YtjgfgjhaghbehaaGreatChecked
namespace Go.Proofs
open Go.Shelf Go.Lib Go.RowKit
shelf_lay Lays.n105 Nm 105 at Tryz as Tryz.lays105
theorem Tryz.extraRep : Builder.Extra Tryz.prog Tryz.lays105_ren where
  sizeBuilder := by kernel_rfl
  liesBuilder := by kernel_rfl
  t5 := Tryz.lays105.t5
  a5 := Tryz.lays105.a5
  z5 := Tryz.lays105.z5
  v5 := Tryz.lays105.v5
  infoByte := by kernel_rfl
  cellsByte := by kernel_rfl
  sizeByte := by kernel_rfl
  neB5 := by decide
namespace YtjgfgjhaghbehaaGreat.PFnExactSortText
open Go.Proofs.YtjgfgjhaghbehaaGreatW.PrintWords Go.Proofs.YtjgfgjhaghbehaaGreatW.PrintLast Go.Proofs.YtjgfgjhaghbehaaGreatW.PrintMore Go.Proofs.YtjgfgjhaghbehaaGreat.PsoPlace Go.Proofs.YtjgfgjhaghbehaaGreat.Rf
set_option linter.unusedVariables false
set_option linter.unusedSimpArgs false

theorem rep_one (x : UInt8) : ∀ k, Lib.repeatL [x] k = List.replicate k x
  | 0 => rfl
  | k + 1 => by rw [List.replicate_succ, ← rep_one x k]; rfl
theorem rep_calls (x : UInt8) (k : Nat) (hk : k ≤ 1000000) (w : World) :
    Calls Tryz.prog 26 #[.string (B [x]), .int .i64 ((k : Nat) : Int)] w fun e w' => e = .returned (.string (B (List.replicate k x))) ∧ Below w.heap.size w w' := by
  have hz : (B [x]).size = 1 := B_size [x]
  refine (Any.strings_Repeat Tryz.lays105 Tryz.extraRep (B [x]) k w (by omega) (by rw [hz]; omega)).mono ?_
  rintro e w' ⟨rfl, hb⟩
  refine ⟨?_, hb⟩
  rw [← rep_one]; rfl
def txt (k : Nat) : List UInt8 := List.replicate k 40 ++ [111] ++ List.replicate k 41
theorem txt_succ (k : Nat) : txt (k + 1) = [40] ++ txt k ++ [41] := by
  unfold txt
  rw [List.replicate_succ, List.replicate_succ']
  simp
theorem txt_len (k : Nat) : (txt k).length = 2 * k + 1 := by simp [txt]; omega
def val (p a : List UInt8) : List UInt8 × Bool := if (levV p a).2 = true then (txt (levV p a).1.toNat, true) else ([], false)
theorem lev_form (p a : List UInt8) : (levV p a = (0, false) ∧ val p a = ([], false)) ∨ ∃ k : Nat, k ≤ 1000 ∧ levV p a = (((k : Nat) : Int), true) ∧ val p a = (txt k, true) := by
  by_cases h : withB p [a] = true ∧ (Srt.of (parsed p).1).canBe = true
  · right
    obtain ⟨hr, c, rfl, hc, hm, hpv, hpn⟩ := with_name h.1
    have ho := Srt.of_ok (read_good hr).2.2.1
    rw [← hpv] at hpn
    obtain ⟨k, hk, hkn⟩ := lev_some ho.1 h.2 hpn
    have hv : levV p [c] = (((k : Nat) : Int), true) := by unfold levV; rw [if_pos h, hk]; rfl
    exact ⟨k, by have := ho.2; have := (read_good hr).2.2.2; omega, hv, by unfold val; rw [hv]; simp⟩
  · left
    have hv : levV p a = (0, false) := by unfold levV; rw [if_neg h]
    exact ⟨hv, by unfold val; rw [hv]; simp⟩
set_option maxHeartbeats 4000000 in
theorem txt_prog (p a : List UInt8) (w : World) (hp : p.length ≤ 140737488351232) (ha : a.length ≤ 140737488351232) :
    Calls Tryz.prog 8 #[.string (B p), .string (B a)] w fun e w' => e = .returned (.tuple #[.string (B (val p a).1), .bool (val p a).2]) ∧ Below w.heap.size w w' := by
  have h := PFnExactLevelOf.LevelOf_calls p a w hp ha
  rcases lev_form p a with ⟨h1, hv⟩ | ⟨k, hk, h1, hv⟩
  · rw [h1] at h
    have HV := Lib.hid hv
    clear h1 hv
    go_enter Tryz.func8, Tryz.ntmps8
    go_wp2_with fail
    refine h.mono ?_
    rintro e w1 ⟨rfl, hb⟩
    clear h
    go_wp2_with fail
    go_ret2
    exact ⟨by rw [HV.out]; rfl, hb⟩
  · rw [h1] at h
    have HV := Lib.hid hv
    have HR : Hid (∀ x w, Calls Tryz.prog 26 #[.string (B [x]), .int .i64 ((k : Nat) : Int)] w fun e w' => e = .returned (.string (B (List.replicate k x))) ∧ Below w.heap.size w w') := fun x w => rep_calls x k (by omega) w
    have e1 : (B (List.replicate k 40)).size = k := by rw [B_size, List.length_replicate]
    have e2 : (B (List.replicate k 41)).size = k := by rw [B_size, List.length_replicate]
    have e3 : (⟨#[111]⟩ : ByteArray).size = 1 := rfl
    have HT : Hid (B (txt k) = B (List.replicate k 40) ++ (⟨#[111]⟩ : ByteArray) ++ B (List.replicate k 41)) := by
      rw [Hid, show (⟨#[111]⟩ : ByteArray) = B [111] from rfl, B_append, B_append]; rfl
    clear h1 hv
    go_enter Tryz.func8, Tryz.ntmps8
    go_wp2_with fail
    refine h.mono ?_
    rintro e w1 ⟨rfl, hb⟩
    have HB := Lib.hid hb
    clear h hb
    go_wp2_with fail
    refine (HR.out 40 _).mono ?_
    rintro e w2 ⟨rfl, hb⟩
    have HB2 := Lib.hid (below_then HB.out HB.out.size hb)
    clear hb HB
    go_wp2_with fail
    refine (HR.out 41 _).mono ?_
    rintro e w3 ⟨rfl, hb⟩
    have HB3 := Lib.hid (below_then HB2.out HB2.out.size hb)
    clear hb HB2
    go_wp2_with fail
    go_ret2
    exact ⟨by rw [HV.out, HT.out]; rfl, HB3.out⟩

set_option maxHeartbeats 4000000 in
theorem txt_spec (p a : List UInt8) (w : World) :
    Calls Tryz.prog 9 #[.string (B p), .string (B a)] w fun e w' => e = .returned (.tuple #[.string (B (val p a).1), .bool (val p a).2]) ∧ Below w.heap.size w w' := by
  have h := soLevel_calls p a w
  rcases lev_form p a with ⟨h1, hv⟩ | ⟨k, hk, h1, hv⟩
  · rw [h1] at h
    have HV := Lib.hid hv
    clear h1 hv
    go_enter Tryz.func9, Tryz.ntmps9
    go_wp2_with fail
    refine h.mono ?_
    rintro e w1 ⟨rfl, hb⟩
    clear h
    go_wp2_with fail
    go_ret2
    exact ⟨by rw [HV.out]; rfl, hb⟩
  · rw [h1] at h
    have HV := Lib.hid hv
    clear h1 hv
    go_enter Tryz.func9, Tryz.ntmps9
    go_wp2_with fail
    refine h.mono ?_
    rintro e w1 ⟨rfl, hb⟩
    have HB := Lib.hid hb
    clear h hb
    go_wp2_with fail
    go_loop [6, 8] (fun n o => ∃ i : Nat, i ≤ k ∧ n = .int .i64 ((k : Int) - i) ∧ o = .string (B (txt i))) (fun n _ => (RowKit.intOf n).toNat)
    case atStart => exact ⟨0, Nat.zero_le _, by simp, rfl⟩
    case round =>
      obtain ⟨i, hi, rfl, rfl⟩ := hrel
      have hts : (B (txt i)).size = 2 * i + 1 := by rw [B_size, txt_len]
      have e1 : (⟨#[40]⟩ : ByteArray).size = 1 := rfl
      have e2 : (⟨#[41]⟩ : ByteArray).size = 1 := rfl
      by_cases hlt : i < k
      · have h0 : (0 : Int) < (k : Int) - i := by omega
        have HT : Hid (B (txt (i + 1)) = (⟨#[40]⟩ : ByteArray) ++ B (txt i) ++ (⟨#[41]⟩ : ByteArray)) := by
          rw [Hid, txt_succ, show (⟨#[40]⟩ : ByteArray) = B [40] from rfl, show (⟨#[41]⟩ : ByteArray) = B [41] from rfl, B_append, B_append]
        have hwr : wrap64 ((k : Int) - i - 1) = (k : Int) - i - 1 := wrap_id (by omega) (by omega)
        have HM : Hid (((k : Int) - i - 1).toNat < ((k : Int) - i).toNat) := by show _ < _; omega
        go_wp2_with fail
        go_round
        case rel => exact ⟨i + 1, by omega, by first | (rw [hwr]; congr 1; omega) | (congr 1; omega), by rw [HT.out]⟩
        case measure => first | exact HM.out | (rw [hwr]; exact HM.out)
      · have hik : i = k := by omega
        subst hik
        have h0 : ¬ (0 : Int) < (i : Int) - i := by omega
        go_wp2_with fail
        go_ret2
        exact ⟨by rw [HV.out]; rfl, HB.out⟩


end YtjgfgjhaghbehaaGreat.PFnExactSortText
end Go.Proofs
