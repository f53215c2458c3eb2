/- The law FnExactSortText, walked: the program's answer is the reference's. (Written by gen_endtxt.py; strings.Repeat off the shelf.) -/
import Derived.Test.YtjgfgjhaghbehaaGreatZLevelOf
import Derived.Shelf.Strings.Repeat
import Derived.Test.YtjgfgjhaghbehaaGreatChecked
namespace Go.Proofs
open Go.Shelf Go.Lib Go.RowKit
def Tryz.lays105_ren : Go.Shelf.Ren := ⟨fun | 105 => 26 | 212 => 54 | 99 => 55 | 165 => 56 | 166 => 57 | 170 => 58 | 169 => 59 | 263 => 84 | 264 => 85 | 206 => 86 | 240 => 87 | 241 => 88 | 276 => 98 | 277 => 99 | n => n, fun | 9 => 9 | 3 => 3 | 4 => 4 | 20 => 20 | 0 => 0 | 46 => 79 | 109 => 80 | 5 => 5 | 72 => 85 | 76 => 89 | 51 => 70 | 146 => 109 | 53 => 36 | 148 => 111 | 70 => 83 | 37 => 22 | 75 => 88 | 127 => 113 | 164 => 122 | 80 => 68 | n => n, fun | n => n⟩
theorem Tryz.lays105 : Go.Proofs.Lays.n105 Tryz.prog Tryz.lays105_ren := {
  mixed := by kernel_rfl
  f99 := Tryz.func55.trans (congrArg some (by kernel_rfl))
  f105 := Tryz.func26.trans (congrArg some (by kernel_rfl))
  f165 := Tryz.func56.trans (congrArg some (by kernel_rfl))
  f166 := Tryz.func57.trans (congrArg some (by kernel_rfl))
  f169 := Tryz.func59.trans (congrArg some (by kernel_rfl))
  f170 := Tryz.func58.trans (congrArg some (by kernel_rfl))
  f206 := Tryz.func86.trans (congrArg some (by kernel_rfl))
  f212 := Tryz.func54.trans (congrArg some (by kernel_rfl))
  f240 := Tryz.func87.trans (congrArg some (by kernel_rfl))
  f241 := Tryz.func88.trans (congrArg some (by kernel_rfl))
  f263 := Tryz.func84.trans (congrArg some (by kernel_rfl))
  f264 := Tryz.func85.trans (congrArg some (by kernel_rfl))
  f276 := Tryz.func98.trans (congrArg some (by kernel_rfl))
  f277 := Tryz.func99.trans (congrArg some (by kernel_rfl))
  t0 := Tryz.underlying0
  a0 := Tryz.isAgg0
  z0 := Tryz.sizeOf0
  v0 := Tryz.zeroValue0
  t3 := Tryz.underlying3
  a3 := Tryz.isAgg3
  z3 := Tryz.sizeOf3
  v3 := Tryz.zeroValue3
  t4 := Tryz.underlying4
  a4 := Tryz.isAgg4
  z4 := Tryz.sizeOf4
  v4 := Tryz.zeroValue4
  t5 := Tryz.underlying5
  a5 := Tryz.isAgg5
  z5 := Tryz.sizeOf5
  v5 := Tryz.zeroValue5
  t9 := Tryz.underlying9
  a9 := Tryz.isAgg9
  z9 := Tryz.sizeOf9
  v9 := Tryz.zeroValue9
  t20 := Tryz.underlying20
  a20 := Tryz.isAgg20
  z20 := Tryz.sizeOf20
  v20 := Tryz.zeroValue20
  t37 := Tryz.underlying22
  a37 := Tryz.isAgg22
  z37 := Tryz.sizeOf22
  v37 := Tryz.zeroValue22
  t46 := Tryz.underlying79
  a46 := Tryz.isAgg79
  z46 := Tryz.sizeOf79
  v46 := Tryz.zeroValue79
  t51 := Tryz.underlying70
  a51 := Tryz.isAgg70
  z51 := Tryz.sizeOf70
  v51 := Tryz.zeroValue70
  t53 := Tryz.underlying36
  a53 := Tryz.isAgg36
  z53 := Tryz.sizeOf36
  v53 := Tryz.zeroValue36
  t70 := Tryz.underlying83
  a70 := Tryz.isAgg83
  z70 := Tryz.sizeOf83
  v70 := Tryz.zeroValue83
  t72 := Tryz.underlying85
  a72 := Tryz.isAgg85
  z72 := Tryz.sizeOf85
  v72 := Tryz.zeroValue85
  t75 := Tryz.underlying88
  a75 := Tryz.isAgg88
  z75 := Tryz.sizeOf88
  v75 := Tryz.zeroValue88
  t76 := Tryz.underlying89
  a76 := Tryz.isAgg89
  z76 := Tryz.sizeOf89
  v76 := Tryz.zeroValue89
  t109 := Tryz.underlying80
  a109 := Tryz.isAgg80
  z109 := Tryz.sizeOf80
  v109 := Tryz.zeroValue80
  t127 := Tryz.underlying113
  a127 := Tryz.isAgg113
  z127 := Tryz.sizeOf113
  v127 := Tryz.zeroValue113
  t146 := Tryz.underlying109
  a146 := Tryz.isAgg109
  z146 := Tryz.sizeOf109
  v146 := Tryz.zeroValue109
  t148 := Tryz.underlying111
  a148 := Tryz.isAgg111
  z148 := Tryz.sizeOf111
  v148 := Tryz.zeroValue111
  t164 := Tryz.underlying122
  a164 := Tryz.isAgg122
  z164 := Tryz.sizeOf122
  v164 := Tryz.zeroValue122 }
theorem Tryz.extraRep : Builder.Extra Tryz.prog Tryz.lays105_ren := {
  sizeBuilder := by kernel_rfl
  liesBuilder := by kernel_rfl
  t5 := Tryz.lays105.t5
  a5 := Tryz.lays105.a5
  z5 := Tryz.lays105.z5
  v5 := Tryz.lays105.v5
  infoByte := by kernel_rfl
  cellsByte := by kernel_rfl
  sizeByte := by kernel_rfl
  neB5 := by decide }
namespace YtjgfgjhaghbehaaGreat.PFnExactSortText
open Go.Proofs.YtjgfgjhaghbehaaGreatW.PrintWords Go.Proofs.YtjgfgjhaghbehaaGreatW.PrintLast Go.Proofs.YtjgfgjhaghbehaaGreatW.PrintMore Go.Proofs.YtjgfgjhaghbehaaGreat.PsoPlace Go.Proofs.YtjgfgjhaghbehaaGreat.Rf
set_option linter.unusedVariables false
set_option linter.unusedSimpArgs false

theorem rep_one (x : UInt8) : ∀ k, Lib.repeatL [x] k = List.replicate k x
  | 0 => rfl
  | k + 1 => by rw [List.replicate_succ, ← rep_one x k]; rfl
theorem rep_calls (x : UInt8) (k : Nat) (hk : k ≤ 1000000) (w : World) :
    Calls Tryz.prog 26 #[.string (B [x]), .int .i64 ((k : Nat) : Int)] w fun e w' => e = .returned (.string (B (List.replicate k x))) ∧ Below w.heap.size w w' := by
  have hz : (B [x]).size = 1 := B_size [x]
  refine (Any.strings_Repeat Tryz.lays105 Tryz.extraRep (B [x]) k w (by omega) (by rw [hz]; omega)).mono ?_
  rintro e w' ⟨rfl, hb⟩
  refine ⟨?_, hb⟩
  rw [← rep_one]; rfl
def txt (k : Nat) : List UInt8 := List.replicate k 40 ++ [111] ++ List.replicate k 41
theorem txt_succ (k : Nat) : txt (k + 1) = [40] ++ txt k ++ [41] := by
  unfold txt
  rw [List.replicate_succ, List.replicate_succ']
  simp
theorem txt_len (k : Nat) : (txt k).length = 2 * k + 1 := by simp [txt]; omega
def val (p a : List UInt8) : List UInt8 × Bool := if (levV p a).2 = true then (txt (levV p a).1.toNat, true) else ([], false)
theorem lev_form (p a : List UInt8) : (levV p a = (0, false) ∧ val p a = ([], false)) ∨ ∃ k : Nat, k ≤ 1000 ∧ levV p a = (((k : Nat) : Int), true) ∧ val p a = (txt k, true) := by
  by_cases h : withB p [a] = true ∧ (Srt.of (parsed p).1).canBe = true
  · right
    obtain ⟨hr, c, rfl, hc, hm, hpv, hpn⟩ := with_name h.1
    have ho := Srt.of_ok (read_good hr).2.2.1
    rw [← hpv] at hpn
    obtain ⟨k, hk, hkn⟩ := lev_some ho.1 h.2 hpn
    have hv : levV p [c] = (((k : Nat) : Int), true) := by unfold levV; rw [if_pos h, hk]; rfl
    exact ⟨k, by have := ho.2; have := (read_good hr).2.2.2; omega, hv, by unfold val; rw [hv]; simp⟩
  · left
    have hv : levV p a = (0, false) := by unfold levV; rw [if_neg h]
    exact ⟨hv, by unfold val; rw [hv]; simp⟩
set_option maxHeartbeats 4000000 in
theorem txt_prog (p a : List UInt8) (w : World) (hp : p.length ≤ 140737488351232) (ha : a.length ≤ 140737488351232) :
    Calls Tryz.prog 8 #[.string (B p), .string (B a)] w fun e w' => e = .returned (.tuple #[.string (B (val p a).1), .bool (val p a).2]) ∧ Below w.heap.size w w' := by
  have h := PFnExactLevelOf.LevelOf_calls p a w hp ha
  rcases lev_form p a with ⟨h1, hv⟩ | ⟨k, hk, h1, hv⟩
  · rw [h1] at h
    have HV := Lib.hid hv
    clear h1 hv
    go_enter Tryz.func8, Tryz.ntmps8
    go_wp2_with fail
    refine h.mono ?_
    rintro e w1 ⟨rfl, hb⟩
    clear h
    go_wp2_with fail
    go_ret2
    exact ⟨by rw [HV.out]; rfl, hb⟩
  · rw [h1] at h
    have HV := Lib.hid hv
    have HR : Hid (∀ x w, Calls Tryz.prog 26 #[.string (B [x]), .int .i64 ((k : Nat) : Int)] w fun e w' => e = .returned (.string (B (List.replicate k x))) ∧ Below w.heap.size w w') := fun x w => rep_calls x k (by omega) w
    have e1 : (B (List.replicate k 40)).size = k := by rw [B_size, List.length_replicate]
    have e2 : (B (List.replicate k 41)).size = k := by rw [B_size, List.length_replicate]
    have e3 : (⟨#[111]⟩ : ByteArray).size = 1 := rfl
    have HT : Hid (B (txt k) = B (List.replicate k 40) ++ (⟨#[111]⟩ : ByteArray) ++ B (List.replicate k 41)) := by
      rw [Hid, show (⟨#[111]⟩ : ByteArray) = B [111] from rfl, B_append, B_append]; rfl
    clear h1 hv
    go_enter Tryz.func8, Tryz.ntmps8
    go_wp2_with fail
    refine h.mono ?_
    rintro e w1 ⟨rfl, hb⟩
    have HB := Lib.hid hb
    clear h hb
    go_wp2_with fail
    refine (HR.out 40 _).mono ?_
    rintro e w2 ⟨rfl, hb⟩
    have HB2 := Lib.hid (below_then HB.out HB.out.size hb)
    clear hb HB
    go_wp2_with fail
    refine (HR.out 41 _).mono ?_
    rintro e w3 ⟨rfl, hb⟩
    have HB3 := Lib.hid (below_then HB2.out HB2.out.size hb)
    clear hb HB2
    go_wp2_with fail
    go_ret2
    exact ⟨by rw [HV.out, HT.out]; rfl, HB3.out⟩

set_option maxHeartbeats 4000000 in
theorem txt_spec (p a : List UInt8) (w : World) :
    Calls Tryz.prog 9 #[.string (B p), .string (B a)] w fun e w' => e = .returned (.tuple #[.string (B (val p a).1), .bool (val p a).2]) ∧ Below w.heap.size w w' := by
  have h := soLevel_calls p a w
  rcases lev_form p a with ⟨h1, hv⟩ | ⟨k, hk, h1, hv⟩
  · rw [h1] at h
    have HV := Lib.hid hv
    clear h1 hv
    go_enter Tryz.func9, Tryz.ntmps9
    go_wp2_with fail
    refine h.mono ?_
    rintro e w1 ⟨rfl, hb⟩
    clear h
    go_wp2_with fail
    go_ret2
    exact ⟨by rw [HV.out]; rfl, hb⟩
  · rw [h1] at h
    have HV := Lib.hid hv
    clear h1 hv
    go_enter Tryz.func9, Tryz.ntmps9
    go_wp2_with fail
    refine h.mono ?_
    rintro e w1 ⟨rfl, hb⟩
    have HB := Lib.hid hb
    clear h hb
    go_wp2_with fail
    go_loop [6, 8] (fun n o => ∃ i : Nat, i ≤ k ∧ n = .int .i64 ((k : Int) - i) ∧ o = .string (B (txt i))) (fun n _ => (RowKit.intOf n).toNat)
    case atStart => exact ⟨0, Nat.zero_le _, by simp, rfl⟩
    case round =>
      obtain ⟨i, hi, rfl, rfl⟩ := hrel
      have hts : (B (txt i)).size = 2 * i + 1 := by rw [B_size, txt_len]
      have e1 : (⟨#[40]⟩ : ByteArray).size = 1 := rfl
      have e2 : (⟨#[41]⟩ : ByteArray).size = 1 := rfl
      by_cases hlt : i < k
      · have h0 : (0 : Int) < (k : Int) - i := by omega
        have HT : Hid (B (txt (i + 1)) = (⟨#[40]⟩ : ByteArray) ++ B (txt i) ++ (⟨#[41]⟩ : ByteArray)) := by
          rw [Hid, txt_succ, show (⟨#[40]⟩ : ByteArray) = B [40] from rfl, show (⟨#[41]⟩ : ByteArray) = B [41] from rfl, B_append, B_append]
        have hwr : wrap64 ((k : Int) - i - 1) = (k : Int) - i - 1 := wrap_id (by omega) (by omega)
        have HM : Hid (((k : Int) - i - 1).toNat < ((k : Int) - i).toNat) := by show _ < _; omega
        go_wp2_with fail
        go_round
        case rel => exact ⟨i + 1, by omega, by first | (rw [hwr]; congr 1; omega) | (congr 1; omega), by rw [HT.out]⟩
        case measure => first | exact HM.out | (rw [hwr]; exact HM.out)
      · have hik : i = k := by omega
        subst hik
        have h0 : ¬ (0 : Int) < (i : Int) - i := by omega
        go_wp2_with fail
        go_ret2
        exact ⟨by rw [HV.out]; rfl, HB.out⟩


end YtjgfgjhaghbehaaGreat.PFnExactSortText
end Go.Proofs
