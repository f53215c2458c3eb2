/- The law FnExactSortText, walked: the program's answer is the reference's. (Written by gen_endtxt.py; strings.Repeat off the shelf.) -/
import Derived.Test.YtonfbnbfbdcmhaaEndLevelOf
import Derived.Shelf.Strings.Repeat
import Derived.Test.YtonfbnbfbdcmhaaChecked
namespace Go.Proofs
open Go.Shelf Go.Lib Go.RowKit
def Try.lays105_ren : Go.Shelf.Ren := ⟨fun | 105 => 41 | 212 => 75 | 99 => 76 | 165 => 77 | 166 => 78 | 170 => 79 | 169 => 80 | 263 => 110 | 264 => 111 | 206 => 112 | 240 => 113 | 241 => 114 | 276 => 129 | 277 => 130 | n => n, fun | 9 => 9 | 3 => 3 | 4 => 4 | 20 => 20 | 0 => 0 | 46 => 94 | 109 => 95 | 5 => 5 | 72 => 99 | 76 => 103 | 51 => 86 | 146 => 127 | 53 => 129 | 148 => 130 | 70 => 97 | 37 => 84 | 75 => 102 | 127 => 132 | 164 => 140 | 80 => 105 | n => n, fun | n => n⟩
theorem Try.lays105 : Go.Proofs.Lays.n105 Try.prog Try.lays105_ren := {
  mixed := by kernel_rfl
  f99 := Try.func76.trans (congrArg some (by kernel_rfl))
  f105 := Try.func41.trans (congrArg some (by kernel_rfl))
  f165 := Try.func77.trans (congrArg some (by kernel_rfl))
  f166 := Try.func78.trans (congrArg some (by kernel_rfl))
  f169 := Try.func80.trans (congrArg some (by kernel_rfl))
  f170 := Try.func79.trans (congrArg some (by kernel_rfl))
  f206 := Try.func112.trans (congrArg some (by kernel_rfl))
  f212 := Try.func75.trans (congrArg some (by kernel_rfl))
  f240 := Try.func113.trans (congrArg some (by kernel_rfl))
  f241 := Try.func114.trans (congrArg some (by kernel_rfl))
  f263 := Try.func110.trans (congrArg some (by kernel_rfl))
  f264 := Try.func111.trans (congrArg some (by kernel_rfl))
  f276 := Try.func129.trans (congrArg some (by kernel_rfl))
  f277 := Try.func130.trans (congrArg some (by kernel_rfl))
  t0 := Try.underlying0
  a0 := Try.isAgg0
  z0 := Try.sizeOf0
  v0 := Try.zeroValue0
  t3 := Try.underlying3
  a3 := Try.isAgg3
  z3 := Try.sizeOf3
  v3 := Try.zeroValue3
  t4 := Try.underlying4
  a4 := Try.isAgg4
  z4 := Try.sizeOf4
  v4 := Try.zeroValue4
  t5 := Try.underlying5
  a5 := Try.isAgg5
  z5 := Try.sizeOf5
  v5 := Try.zeroValue5
  t9 := Try.underlying9
  a9 := Try.isAgg9
  z9 := Try.sizeOf9
  v9 := Try.zeroValue9
  t20 := Try.underlying20
  a20 := Try.isAgg20
  z20 := Try.sizeOf20
  v20 := Try.zeroValue20
  t37 := Try.underlying84
  a37 := Try.isAgg84
  z37 := Try.sizeOf84
  v37 := Try.zeroValue84
  t46 := Try.underlying94
  a46 := Try.isAgg94
  z46 := Try.sizeOf94
  v46 := Try.zeroValue94
  t51 := Try.underlying86
  a51 := Try.isAgg86
  z51 := Try.sizeOf86
  v51 := Try.zeroValue86
  t53 := Try.underlying129
  a53 := Try.isAgg129
  z53 := Try.sizeOf129
  v53 := Try.zeroValue129
  t70 := Try.underlying97
  a70 := Try.isAgg97
  z70 := Try.sizeOf97
  v70 := Try.zeroValue97
  t72 := Try.underlying99
  a72 := Try.isAgg99
  z72 := Try.sizeOf99
  v72 := Try.zeroValue99
  t75 := Try.underlying102
  a75 := Try.isAgg102
  z75 := Try.sizeOf102
  v75 := Try.zeroValue102
  t76 := Try.underlying103
  a76 := Try.isAgg103
  z76 := Try.sizeOf103
  v76 := Try.zeroValue103
  t109 := Try.underlying95
  a109 := Try.isAgg95
  z109 := Try.sizeOf95
  v109 := Try.zeroValue95
  t127 := Try.underlying132
  a127 := Try.isAgg132
  z127 := Try.sizeOf132
  v127 := Try.zeroValue132
  t146 := Try.underlying127
  a146 := Try.isAgg127
  z146 := Try.sizeOf127
  v146 := Try.zeroValue127
  t148 := Try.underlying130
  a148 := Try.isAgg130
  z148 := Try.sizeOf130
  v148 := Try.zeroValue130
  t164 := Try.underlying140
  a164 := Try.isAgg140
  z164 := Try.sizeOf140
  v164 := Try.zeroValue140 }
theorem Try.extraRep : Builder.Extra Try.prog Try.lays105_ren := {
  sizeBuilder := by kernel_rfl
  liesBuilder := by kernel_rfl
  t5 := Try.lays105.t5
  a5 := Try.lays105.a5
  z5 := Try.lays105.z5
  v5 := Try.lays105.v5
  infoByte := by kernel_rfl
  cellsByte := by kernel_rfl
  sizeByte := by kernel_rfl
  neB5 := by decide }
namespace Ytonfbnbfbdcmhaa.PFnExactSortText
open Go.Proofs.YtonfbnbfbdcmhaaW.PrintWords Go.Proofs.YtonfbnbfbdcmhaaW.PrintLast Go.Proofs.YtonfbnbfbdcmhaaW.PrintMore Go.Proofs.Ytonfbnbfbdcmhaa.PsoPlace Go.Proofs.Ytonfbnbfbdcmhaa.Rf
set_option linter.unusedVariables false
set_option linter.unusedSimpArgs false

theorem rep_one (x : UInt8) : ∀ k, Lib.repeatL [x] k = List.replicate k x
  | 0 => rfl
  | k + 1 => by rw [List.replicate_succ, ← rep_one x k]; rfl
theorem rep_calls (x : UInt8) (k : Nat) (hk : k ≤ 1000000) (w : World) :
    Calls Try.prog 41 #[.string (B [x]), .int .i64 ((k : Nat) : Int)] w fun e w' => e = .returned (.string (B (List.replicate k x))) ∧ Below w.heap.size w w' := by
  have hz : (B [x]).size = 1 := B_size [x]
  refine (Any.strings_Repeat Try.lays105 Try.extraRep (B [x]) k w (by omega) (by rw [hz]; omega)).mono ?_
  rintro e w' ⟨rfl, hb⟩
  refine ⟨?_, hb⟩
  rw [← rep_one]; rfl
def txt (k : Nat) : List UInt8 := List.replicate k 40 ++ [111] ++ List.replicate k 41
theorem txt_succ (k : Nat) : txt (k + 1) = [40] ++ txt k ++ [41] := by
  unfold txt
  rw [List.replicate_succ, List.replicate_succ']
  simp
theorem txt_len (k : Nat) : (txt k).length = 2 * k + 1 := by simp [txt]; omega
def val (p a : List UInt8) : List UInt8 × Bool := if (levV p a).2 = true then (txt (levV p a).1.toNat, true) else ([], false)
theorem lev_form (p a : List UInt8) : (levV p a = (0, false) ∧ val p a = ([], false)) ∨ ∃ k : Nat, k ≤ 1000 ∧ levV p a = (((k : Nat) : Int), true) ∧ val p a = (txt k, true) := by
  by_cases h : withB p [a] = true ∧ (Srt.of (parsed p).1).canBe = true
  · right
    obtain ⟨hr, c, rfl, hc, hm, hpv, hpn⟩ := with_name h.1
    have ho := Srt.of_ok (read_good hr).2.2.1
    rw [← hpv] at hpn
    obtain ⟨k, hk, hkn⟩ := lev_some ho.1 h.2 hpn
    have hv : levV p [c] = (((k : Nat) : Int), true) := by unfold levV; rw [if_pos h, hk]; rfl
    exact ⟨k, by have := ho.2; have := (read_good hr).2.2.2; omega, hv, by unfold val; rw [hv]; simp⟩
  · left
    have hv : levV p a = (0, false) := by unfold levV; rw [if_neg h]
    exact ⟨hv, by unfold val; rw [hv]; simp⟩
set_option maxHeartbeats 4000000 in
theorem txt_prog (p a : List UInt8) (w : World) (hp : p.length ≤ 140737488351232) (ha : a.length ≤ 140737488351232) :
    Calls Try.prog 15 #[.string (B p), .string (B a)] w fun e w' => e = .returned (.tuple #[.string (B (val p a).1), .bool (val p a).2]) ∧ Below w.heap.size w w' := by
  have h := PFnExactLevelOf.LevelOf_calls p a w hp ha
  rcases lev_form p a with ⟨h1, hv⟩ | ⟨k, hk, h1, hv⟩
  · rw [h1] at h
    have HV := Lib.hid hv
    clear h1 hv
    go_enter Try.func15, Try.ntmps15
    go_wp2_with fail
    refine h.mono ?_
    rintro e w1 ⟨rfl, hb⟩
    clear h
    go_wp2_with fail
    go_ret2
    exact ⟨by rw [HV.out]; rfl, hb⟩
  · rw [h1] at h
    have HV := Lib.hid hv
    have HR : Hid (∀ x w, Calls Try.prog 41 #[.string (B [x]), .int .i64 ((k : Nat) : Int)] w fun e w' => e = .returned (.string (B (List.replicate k x))) ∧ Below w.heap.size w w') := fun x w => rep_calls x k (by omega) w
    have e1 : (B (List.replicate k 40)).size = k := by rw [B_size, List.length_replicate]
    have e2 : (B (List.replicate k 41)).size = k := by rw [B_size, List.length_replicate]
    have e3 : (⟨#[111]⟩ : ByteArray).size = 1 := rfl
    have HT : Hid (B (txt k) = B (List.replicate k 40) ++ (⟨#[111]⟩ : ByteArray) ++ B (List.replicate k 41)) := by
      rw [Hid, show (⟨#[111]⟩ : ByteArray) = B [111] from rfl, B_append, B_append]; rfl
    clear h1 hv
    go_enter Try.func15, Try.ntmps15
    go_wp2_with fail
    refine h.mono ?_
    rintro e w1 ⟨rfl, hb⟩
    have HB := Lib.hid hb
    clear h hb
    go_wp2_with fail
    refine (HR.out 40 _).mono ?_
    rintro e w2 ⟨rfl, hb⟩
    have HB2 := Lib.hid (below_then HB.out HB.out.size hb)
    clear hb HB
    go_wp2_with fail
    refine (HR.out 41 _).mono ?_
    rintro e w3 ⟨rfl, hb⟩
    have HB3 := Lib.hid (below_then HB2.out HB2.out.size hb)
    clear hb HB2
    go_wp2_with fail
    go_ret2
    exact ⟨by rw [HV.out, HT.out]; rfl, HB3.out⟩

set_option maxHeartbeats 4000000 in
theorem txt_spec (p a : List UInt8) (w : World) :
    Calls Try.prog 14 #[.string (B p), .string (B a)] w fun e w' => e = .returned (.tuple #[.string (B (val p a).1), .bool (val p a).2]) ∧ Below w.heap.size w w' := by
  have h := soLevel_calls p a w
  rcases lev_form p a with ⟨h1, hv⟩ | ⟨k, hk, h1, hv⟩
  · rw [h1] at h
    have HV := Lib.hid hv
    clear h1 hv
    go_enter Try.func14, Try.ntmps14
    go_wp2_with fail
    refine h.mono ?_
    rintro e w1 ⟨rfl, hb⟩
    clear h
    go_wp2_with fail
    go_ret2
    exact ⟨by rw [HV.out]; rfl, hb⟩
  · rw [h1] at h
    have HV := Lib.hid hv
    clear h1 hv
    go_enter Try.func14, Try.ntmps14
    go_wp2_with fail
    refine h.mono ?_
    rintro e w1 ⟨rfl, hb⟩
    have HB := Lib.hid hb
    clear h hb
    go_wp2_with fail
    go_loop [6, 8] (fun n o => ∃ i : Nat, i ≤ k ∧ n = .int .i64 ((k : Int) - i) ∧ o = .string (B (txt i))) (fun n _ => (RowKit.intOf n).toNat)
    case atStart => exact ⟨0, Nat.zero_le _, by simp, rfl⟩
    case round =>
      obtain ⟨i, hi, rfl, rfl⟩ := hrel
      have hts : (B (txt i)).size = 2 * i + 1 := by rw [B_size, txt_len]
      have e1 : (⟨#[40]⟩ : ByteArray).size = 1 := rfl
      have e2 : (⟨#[41]⟩ : ByteArray).size = 1 := rfl
      by_cases hlt : i < k
      · have h0 : (0 : Int) < (k : Int) - i := by omega
        have HT : Hid (B (txt (i + 1)) = (⟨#[40]⟩ : ByteArray) ++ B (txt i) ++ (⟨#[41]⟩ : ByteArray)) := by
          rw [Hid, txt_succ, show (⟨#[40]⟩ : ByteArray) = B [40] from rfl, show (⟨#[41]⟩ : ByteArray) = B [41] from rfl, B_append, B_append]
        have hwr : wrap64 ((k : Int) - i - 1) = (k : Int) - i - 1 := wrap_id (by omega) (by omega)
        have HM : Hid (((k : Int) - i - 1).toNat < ((k : Int) - i).toNat) := by show _ < _; omega
        go_wp2_with fail
        go_round
        case rel => exact ⟨i + 1, by omega, by first | (rw [hwr]; congr 1; omega) | (congr 1; omega), by rw [HT.out]⟩
        case measure => first | exact HM.out | (rw [hwr]; exact HM.out)
      · have hik : i = k := by omega
        subst hik
        have h0 : ¬ (0 : Int) < (i : Int) - i := by omega
        go_wp2_with fail
        go_ret2
        exact ⟨by rw [HV.out]; rfl, HB.out⟩

set_option maxHeartbeats 1000000 in
theorem law_walk (s t : ByteArray) (w : World) (hs : s.size ≤ 140737488351232) (ht : t.size ≤ 140737488351232) :
    Calls Try.prog 4 #[.string s, .string t] w fun e w' => e = .returned (.bool true) ∧ Below w.heap.size w w' := by
  obtain ⟨l, rfl⟩ := B_of s
  obtain ⟨m, rfl⟩ := B_of t
  have hzl : (B l).size = l.length := B_size l
  rw [hzl] at hs
  have hzm : (B m).size = m.length := B_size m
  rw [hzm] at ht
  by_cases hbigl : l.length > 1048576
  · go_enter Try.func4, Try.ntmps4
    go_wp2_with fail
    go_ret
    exact ⟨rfl, Below.refl _ _⟩
  by_cases hbigm : m.length > 1048576
  · go_enter Try.func4, Try.ntmps4
    go_wp2_with fail
    go_ret
    exact ⟨rfl, Below.refl _ _⟩
  · have HF := txt_spec l m
    have HI := txt_prog l m
    go_enter Try.func4, Try.ntmps4
    go_wp2_with fail
    refine (HF _).mono ?_
    rintro e w1 ⟨rfl, hb1⟩
    go_wp2_with fail
    refine (HI _ hs ht).mono ?_
    rintro e w2 ⟨rfl, hb⟩
    replace hb := below_then hb1 hb1.size hb
    clear hb1
    go_wp2_with fail
    go_ret
    exact ⟨rfl, hb⟩
end Ytonfbnbfbdcmhaa.PFnExactSortText
end Go.Proofs
