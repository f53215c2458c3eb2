/- Several texts in one.
   What the laws do with a slice of strings of a function's own: they compare it, write marks into it, and look whether the marks are there.
   The law FnExactSortClasses, walked: the program's answer is the reference's.
   The row of the law FnExactSortClasses: for every input the law answers true, and the arguments read as before. It follows from the walk in YtonfbnbfbdcmhaaEndSortClasses. -/
import Derived.Test.YtonfbnbfbdcmhaaPheldStringSx
import Derived.Test.YtonfbnbfbdcmhaaPeqStringSx
import Derived.Test.YtonfbnbfbdcmhaaBase
import Derived.Lib.Hide
import Derived.Deep.LoopGhost
import Derived.WalkKit
import Derived.OwnWalk
import Derived.Outline
import Derived.Test.YtonfbnbfbdcmhaaClsA
import Derived.Test.YtonfbnbfbdcmhaaRows
import Derived.ProofKit
import Derived.OpenShut
import Derived.ShutString
import Derived.ChangeOld
import Derived.Below
import Derived.SizedLaws
namespace Go.Proofs.Ytonfbnbfbdcmhaa.PheldStringS
open Go.RowKit Go.Proofs.YtonfbnbfbdcmhaaW.PrintWords Go.Proofs.YtonfbnbfbdcmhaaW.PrintLast Go.Proofs.YtonfbnbfbdcmhaaW.PrintMore Go.Proofs.Ytonfbnbfbdcmhaa.PeqStringS
set_option linter.unusedVariables false
set_option linter.unusedSimpArgs false

def mt (x : Nat) : ByteArray := (laws_markText.f 9 x).getD ByteArray.empty
theorem mt_f {x : Nat} (h : x < 64) : laws_markText.f 9 x = some (mt x) := by
  have : ∀ x : Nat, x < 64 → (laws_markText.f 9 x).isSome = true := by decide +kernel
  unfold mt
  obtain ⟨y, hy⟩ := Option.isSome_iff_exists.mp (this x h)
  rw [hy]; rfl
theorem mt_up {x : Nat} (h : x < 64) {f : Nat} (hf : 9 ≤ f) : laws_markText.f f x = some (mt x) := by
  obtain ⟨d, rfl⟩ : ∃ d, f = 9 + d := ⟨f - 9, by omega⟩
  clear hf
  induction d with
  | zero => exact mt_f h
  | succ d ih => exact laws_markText.mono _ _ _ ih
def Marked (m : List ByteArray) (n k i : Nat) : Prop := m.length = n ∧ ∀ j, j < i → m[j]? = some (mt (k + j))
theorem rdOf_get {α : Type} {d x : α} {l : List α} {i : Nat} (h : l[i]? = some x) : rdOf d l (i : Int) = x := by
  unfold rdOf; simp [List.getD, h]

theorem grown_of_below {w w' : World} {row : Option Nat} (h : Below w.heap.size w w') : w.grownBy w' row := by
  obtain ⟨a, b, c, d, e⟩ := h
  exact ⟨a, b, c, d, fun i hi _ => e i hi⟩
theorem grown_then {a w w' : World} {row : Option Nat} (h : a.grownBy w row) (k : w.grownBy w' row) : a.grownBy w' row :=
  ⟨k.os.trans h.os, k.tape.trans h.tape, k.output.trans h.output, Nat.le_trans h.size k.size, fun i hi hr => (k.block i (Nat.lt_of_lt_of_le hi h.size) hr).trans (h.block i hi hr)⟩

set_option maxHeartbeats 2000000 in
theorem mark_calls (base : Nat) (ok : Nat → Prop) (v : Value) (l : List ByteArray) (k : Nat) (w : World) (hk : k + l.length ≤ 60) (h : Kd.R Kd.string 9 w base ok v l) (hbw : base ≤ w.heap.size) :
    Calls Try.prog 34 #[v, .int .i64 k] w fun e w' => e = .returned (.int .i64 ((k + l.length : Nat) : Int)) ∧ (∃ m, Marked m l.length k l.length ∧ Kd.R Kd.string 9 w' base ok v m) ∧ w.grownBy w' v.ownBlock ∧ Below base w w' := by
  obtain ⟨A, c, rfl⟩ := Kd.R_slice h
  have H := Lib.hid h
  clear h
  go_enter Try.func34, Try.ntmps34
  go_wp2_with fail
  go_loopw [1, 5] (fun a i wr => ∃ j : Nat, j ≤ l.length ∧ i = .int .i64 j ∧ a = .int .i64 ((k + j : Nat) : Int) ∧ (∃ m, Marked m l.length k j ∧ Kd.R Kd.string 9 wr base ok (.slice A l.length c) m) ∧ w.grownBy wr (Value.slice A l.length c).ownBlock ∧ Below base w wr) (fun _ i _ => l.length - (intOf i).toNat)
  case atStart => exact ⟨0, Nat.zero_le _, rfl, rfl, ⟨l, ⟨rfl, fun j hj => absurd hj (Nat.not_lt_zero _)⟩, H.out⟩, World.grownBy.refl _ _, Below.refl _ _⟩
  case round =>
    obtain ⟨j, hj, rfl, rfl, ⟨m, hm, hr⟩, hg, hb⟩ := hrel
    by_cases hlt : j < l.length
    · obtain ⟨g, cap, he, hgb, hgl, _⟩ := Kd.R_form hr (by rw [hm.1]; omega)
      rw [hm.1] at he
      injection he with he1 _ he2
      subst he1 he2
      have ht := laws_markText.calls 9 ((k + j : Nat) : Int) (mt (k + j)) wr (mt_f (by omega))
      have HM := Lib.hid hm
      have HR := Lib.hid hr
      have HG := Lib.hid hg
      have HB := Lib.hid hb
      have HGB := Lib.hid hgb
      clear hm hr hg hb hgb hgl
      go_wp2_with fail
      refine ht.mono ?_
      rintro e w1 ⟨rfl, hb1⟩
      clear ht
      have hr1 := Kd.R_below HR.out hb1
      rw [← HM.out.1] at hr1
      obtain ⟨c1, f1⟩ := Kd.R_cell ByteArray.empty hr1 (j : Int) (by omega) (by rw [HM.out.1]; omega)
      have HP := Lib.hid (Kd.R_put hr1 (j : Int) (mt (k + j)))
      replace HG := Lib.hid (grown_then HG.out (grown_of_below hb1))
      replace HB := Lib.hid (below_then HB.out (Nat.le_trans hbw HB.out.size) hb1)
      rw [Int.toNat_natCast] at c1 f1 HP
      clear hb1 hr1 HR
      go_wp2_with fail
      go_roundw
      case rel =>
        refine ⟨j + 1, by omega, by go_num, by go_num, ⟨m.set j (mt (k + j)), ⟨by rw [List.length_set]; exact HM.out.1, fun i hi => ?_⟩, ?_⟩, ?_, ?_⟩
        · rcases Nat.lt_or_ge i j with h | h
          · rw [List.getElem?_set_ne (by omega)]; exact HM.out.2 i h
          · rw [show i = j from by omega, List.getElem?_set_self (by rw [HM.out.1]; omega)]
        · have := HP.out.1
          rw [HM.out.1] at this
          exact this
        · exact grown_then HG.out HP.out.2
        · exact HB.out.setCell HGB.out _
      case measure => simp [intOf]; omega
    · have hje : j = l.length := by omega
      subst hje
      have HM := Lib.hid hm
      have HR := Lib.hid hr
      have HG := Lib.hid hg
      have HB := Lib.hid hb
      clear hm hr hg hb
      go_wp2_with fail
      go_ret
      exact ⟨rfl, ⟨m, HM.out, HR.out⟩, HG.out, HB.out⟩

theorem held_l (m : List ByteArray) (n k : Nat) (hk : k + n ≤ 60) (hm : Marked m n k n) (d : Nat) : ∀ (j f : Nat), j + d = n → d + 10 < f → laws_heldStringS.l0 f m ((k + j : Nat) : Int) (j : Int) = some ((k + n : Nat) : Int) := by
  induction d with
  | zero =>
    intro j f hj hf
    obtain ⟨f, rfl⟩ : ∃ x, f = x + 1 := ⟨f - 1, by omega⟩
    rw [laws_heldStringS.l0, if_neg (by rw [hm.1]; omega), show j = n from by omega]
  | succ d ih =>
    intro j f hj hf
    obtain ⟨f, rfl⟩ : ∃ x, f = x + 1 := ⟨f - 1, by omega⟩
    have hmt : laws_markText.f f ((k + j : Nat) : Int) = some (mt (k + j)) := mt_up (by omega) (by omega)
    have e := ih (j + 1) f (by omega) (by omega)
    rw [laws_heldStringS.l0, if_pos (by rw [hm.1]; omega), if_pos (by omega), hmt, Option.bind_some, rdOf_get (hm.2 j (by omega)), if_pos rfl,
      wrap_id (x := ((k + j : Nat) : Int) + 1) (by omega) (by omega), wrap_id (x := (j : Int) + 1) (by omega) (by omega)]
    exact e
theorem held_f (m : List ByteArray) (n k f : Nat) (hk : k + n ≤ 60) (hm : Marked m n k n) (hf : n + 10 < f) : laws_heldStringS.f f m (k : Int) = some ((k + n : Nat) : Int) := held_l m n k hk hm n 0 f (by omega) hf
theorem eq_l (l : List ByteArray) (hl : l.length ≤ 1000) (d : Nat) : ∀ (j f : Nat), j + d = l.length → d < f → laws_eqStringS.l0 f l l (j : Int) = some true := by
  induction d with
  | zero =>
    intro j f hj hf
    obtain ⟨f, rfl⟩ : ∃ x, f = x + 1 := ⟨f - 1, by omega⟩
    rw [laws_eqStringS.l0, if_neg (by omega)]
  | succ d ih =>
    intro j f hj hf
    obtain ⟨f, rfl⟩ : ∃ x, f = x + 1 := ⟨f - 1, by omega⟩
    have e := ih (j + 1) f (by omega) (by omega)
    rw [laws_eqStringS.l0, if_pos (by omega), if_pos (by omega), if_pos (by omega), if_pos rfl, wrap_id (x := (j : Int) + 1) (by omega) (by omega)]
    exact e
theorem eq_f (l : List ByteArray) (f : Nat) (hl : l.length ≤ 1000) (hf : l.length < f) : laws_eqStringS.f f l l = some true := by
  unfold laws_eqStringS.f
  rw [if_pos rfl]
  exact eq_l l hl l.length 0 f (by omega) hf

end Go.Proofs.Ytonfbnbfbdcmhaa.PheldStringS
namespace Go.Proofs.Ytonfbnbfbdcmhaa.PFnExactSortClasses
open Go.RowKit Go.Proofs.YtonfbnbfbdcmhaaW.PrintWords Go.Proofs.YtonfbnbfbdcmhaaW.PrintLast Go.Proofs.YtonfbnbfbdcmhaaW.PrintMore Go.Proofs.Ytonfbnbfbdcmhaa.PheldStringS Go.Proofs.Ytonfbnbfbdcmhaa.PeqStringS Go.Proofs.Ytonfbnbfbdcmhaa.Rf
set_option linter.unusedVariables false
set_option linter.unusedSimpArgs false

theorem below_step2 {a w w' : World} {N : Nat} (h : Below N a w) (k : Below N w w') : Below N a w' := by
  obtain ⟨p, q, r, t, u⟩ := h
  obtain ⟨p', q', r', t', u'⟩ := k
  exact ⟨p'.trans p, q'.trans q, r'.trans r, Nat.le_trans t t', fun i hi => (u' i hi).trans (u i hi)⟩

set_option maxHeartbeats 2000000 in
theorem law_walk (s : ByteArray) (w : World) (hs : s.size ≤ 140737488351232) :
    Calls Try.prog 11 #[.string s] w fun e w' => e = .returned (.bool true) ∧ Below w.heap.size w w' := by
  obtain ⟨l, rfl⟩ := B_of s
  have hz : (B l).size = l.length := B_size l
  rw [hz] at hs
  by_cases hbig : l.length > 1048576
  · go_enter Try.func11, Try.ntmps11
    go_wp2_with fail
    go_ret
    exact ⟨rfl, Below.refl _ _⟩
  · have HF := Lib.hid (Rf.cls_spec l)
    have hlen := clsV_len l
    go_enter Try.func11, Try.ntmps11
    go_wp2_with fail
    refine (HF.out _).mono ?_
    rintro e w1 ⟨v1, rfl, R1, hb1⟩
    obtain ⟨A1, c1, rfl⟩ := Kd.R_slice R1
    have K1 := Lib.hid (Kd.R_reads' R1).2
    have HB := Lib.hid hb1
    clear R1 hb1 HF
    go_wp2_with fail
    refine (cls_prog l w1 hs).mono ?_
    rintro e w3 ⟨v3, rfl, R3, hb3⟩
    obtain ⟨A3, c3, rfl⟩ := Kd.R_slice R3
    have HR3 := Lib.hid R3
    have HB3 := Lib.hid hb3
    clear R3 hb3
    have heq := laws_eqStringS.calls 3000 A3 c3 (clsV l) A1 c1 (clsV l) true w3 (Kd.R_reads' HR3.out).2.2 (Kd.R_reads' HR3.out).2.1 (Kd.C_below K1.out.2 HB3.out) K1.out.1 (eq_f _ 3000 (by omega) (by omega))
    go_wp2_with fail
    refine heq.mono ?_
    rintro e w5 ⟨rfl, hd5⟩
    have hb5 := hd5.below
    have HB5 := Lib.hid (below_then HB3.out HB3.out.size hb5)
    have HR5 := Lib.hid (Kd.R_below HR3.out hb5)
    have hmk := mark_calls w1.heap.size (fun _ => True) (.slice A3 (clsV l).length c3) (clsV l) 1 w5 (by omega) HR5.out HB5.out.size
    clear heq hd5 hb5 HB3
    go_wp2_with fail
    refine hmk.mono ?_
    rintro e w6 ⟨rfl, ⟨m, hm, hr⟩, hg, hb6⟩
    have HB6 := Lib.hid (below_step2 HB5.out hb6)
    have HM := Lib.hid hm
    have HR6 := Lib.hid hr
    have hh := laws_heldStringS.calls 3000 A3 c3 m 1 _ w6 (Kd.R_reads' hr).2.2 (by rw [hm.1]; exact (Kd.R_reads' HR3.out).2.1) (held_f m _ 1 3000 (by omega) hm (by omega))
    rw [hm.1] at hh
    clear hmk hm hr hg hb6 HR5 HB5
    go_wp2_with fail
    refine hh.mono ?_
    rintro e w7 ⟨rfl, hb7⟩
    have HB7 := Lib.hid (below_then HB6.out HB6.out.size hb7)
    have HR7 := Lib.hid (Kd.R_below HR6.out hb7)
    have hst := cls_prog l w7 hs
    clear hh hb7 HR6 HB6
    go_wp2_with fail
    refine hst.mono ?_
    rintro e w8 ⟨v8, rfl, R8, hb8⟩
    obtain ⟨A8, c8, rfl⟩ := Kd.R_slice R8
    have HB8 := Lib.hid (below_then HB7.out HB7.out.size hb8)
    have HR8 := Lib.hid R8
    have HR7b := Lib.hid (Kd.R_below HR7.out hb8)
    clear hst R8 HR7 hb8 HB7
    have heq := laws_eqStringS.calls 3000 A8 c8 (clsV l) A1 c1 (clsV l) true w8 (Kd.R_reads' HR8.out).2.2 (Kd.R_reads' HR8.out).2.1 (Kd.C_below K1.out.2 HB8.out) K1.out.1 (eq_f _ 3000 (by omega) (by omega))
    go_wp2_with fail
    refine heq.mono ?_
    rintro e w10 ⟨rfl, hd10⟩
    have hb10 := hd10.below
    have HB10 := Lib.hid (below_then HB8.out HB8.out.size hb10)
    have hr10 := Kd.R_below HR7b.out hb10
    have hh := laws_heldStringS.calls 3000 A3 c3 m 1 _ w10 (Kd.R_reads' hr10).2.2 (by rw [HM.out.1]; exact (Kd.R_reads' HR3.out).2.1) (held_f m _ 1 3000 (by omega) HM.out (by omega))
    rw [HM.out.1] at hh
    clear heq hd10 hb10 hr10 HR7b HR8 HB8
    go_wp2_with fail
    refine hh.mono ?_
    rintro e w11 ⟨rfl, hb11⟩
    have HB11 := Lib.hid (below_then HB10.out HB10.out.size hb11)
    clear hh hb11
    go_wp2_with fail
    go_ret
    exact ⟨rfl, below_then HB.out HB.out.size HB11.out⟩

end Go.Proofs.Ytonfbnbfbdcmhaa.PFnExactSortClasses
namespace Go.Proofs.Ytonfbnbfbdcmhaa.fnExactSortClasses
open Go.ChangeShapes Go.WideShapes Go.ChangeAt Go.RowKit
open Go.ChangeMaps (open_string shut_string)
set_option linter.unusedVariables false
theorem own : ownKnob Try.prog.godebug = none := by kernel_rfl
set_option maxRecDepth 100000 in
theorem lifted (os : Os) (started : os.Started) (H : Type) (enc : TypeId × Value → H) :
    ReturnsInHanded {} Try.checked os 11 .any (Rows.fnExactSortClassesSpec.pre6 enc Try.prog Try.f11 Rows.fnExactSortClassesRow.domain false) (Rows.fnExactSortClassesSpec.post enc Try.prog Try.f11 false true false false) := by
  refine returnsInHanded_of_change_sized (C := Try.checked) own started (by kernel_rfl) Try.func11
    (ChangeSpec.witness6 (enc := enc) (C := Try.checked) false ⟨#[], #[.string ByteArray.empty], []⟩ 8 (by kernel_rfl) (by kernel_rfl) (by kernel_rfl) (by kernel_rfl)) ?_
  intro W base args ds gs before hval0 hW hcnd hsz0 _
  have hsz : (DataW.weightsEach Try.prog (Try.f11.params.toList ++ Rows.fnExactSortClassesSpec.plain.varTypes Try.prog) (ds ++ gs)).all (· ≤ reachBytes) = true := hsz0
  have hval : ∀ (j : Nat) t v, Try.f11.params[j]? = some t → args[j]? = some v → Value.okWide Try.prog W .any base t v := hval0
  have hW' := hW
  obtain ⟨p, q, hA0, hV, rfl, hfz, hnd⟩ := hW
  have hA : DataW.TrodAll enc Try.prog W 0 (fun _ => true) true Try.f11.params.toList args.toList ds p := hA0
  rw [Try.params11] at hA hval hsz
  obtain ⟨v0, vs0, d0, ds0, p0, q0, hargs, rfl, rfl, h0, r0⟩ := trodAll_cons hA
  obtain ⟨rfl, rfl, rfl⟩ := trodAll_nil r0
  obtain rfl : args = #[v0] := by cases args; simp_all
  obtain ⟨rfl, rfl⟩ := trodVars_none hV
  obtain ⟨a0, rfl, rfl, rfl, y0⟩ := open_string Try.underlying9 (hval 0 9 v0 rfl rfl) h0
  have w0 : a0.size ≤ 140737488351232 := by
    have z := sized_string hsz (j := 0) (t := 9) rfl rfl
    rw [Array.length_toList] at z
    exact z
  clear hA0 hval0 hsz0 hsz
  refine (PFnExactSortClasses.law_walk a0 W w0).mono fun e W' ⟨he, bel⟩ => ?_
  subst he
  exact ⟨_, rfl, _, _, _, [], _, [], hW', trodAll_mk1 (shut_bool Try.underlying4 _), (trodAll_cons_mk (shut_string Try.underlying9 y0) trodAll_mk0), rfl, bel.frame _, fun h => by cases h⟩
theorem over : Rows.fnExactSortClassesRow.holds Try.pinned (OpenSpec.ofChange Rows.fnExactSortClassesSpec) :=
  OpenClaim.holds_of_wide 11 Try.f11 rfl rfl rfl rfl rfl rfl rfl ⟨rfl, rfl, rfl, rfl, rfl⟩ rfl rfl rfl rfl rfl (by kernel_rfl) Try.func11 (by kernel_rfl)
    (of_decide_eq_true (by kernel_rfl)) (by unfold Func.isWrapper; first | (rw [if_pos (by decide +kernel)]; kernel_rfl) | (rw [if_neg (by decide +kernel)]; exact ⟨rfl, rfl⟩))
    (fun os started H enc _ => lifted os started H enc)
theorem proved : Rows.FnExactSortClassesSaid := over
end Go.Proofs.Ytonfbnbfbdcmhaa.fnExactSortClasses
namespace Go.Proofs.Ytonfbnbfbdcmhaa
theorem fnExactSortClasses_holds : Rows.FnExactSortClassesSaid := fnExactSortClasses.proved
end Go.Proofs.Ytonfbnbfbdcmhaa
