/- rename, all kinds together; the program's RenameFree, walked. -/
import Derived.Test.YtfcadppidgkoaaaRenX
import Derived.Test.YtfcadppidgkoaaaRenB
import Derived.Test.YtfcadppidgkoaaaToldT
import Derived.Test.YtfcadppidgkoaaaRenP
import Derived.Test.YtfcadppidgkoaaaWithF2
namespace Go.Proofs.Ytfcadppidgkoaaa
open Go.RowKit Go.Proofs.YtfcadppidgkoaaaW.PrintWords Go.Proofs.YtfcadppidgkoaaaW.PrintMore Go.Proofs.Ytfcadppidgkoaaa.Pterm
set_option linter.unusedVariables false
set_option linter.unusedSimpArgs false

theorem wf_any {P : UInt8 → Bool} : ∀ {t : Tm}, Wf P t → Wf (fun _ => true) t
  | .leaf _ _ _, h => h
  | .un _ _ _ _, ⟨h, hw⟩ => ⟨h.imp (fun ⟨a, _, _⟩ => ⟨a, rfl, rfl⟩) (fun h => h.imp (fun ⟨a, b, _⟩ => ⟨a, b, rfl⟩) id), wf_any hw⟩
  | .bin _ _ _ _ _, ⟨h1, h2, h3, h4, h5⟩ => ⟨h1, h2, h3, wf_any h4, wf_any h5⟩
theorem vt {c d : UInt8} (h : c = d) : (vl c == vl d) = true := by rw [h]; simp
theorem vf {c d : UInt8} (h : ¬ c = d) : (vl c == vl d) = false := by rw [beq_eq_false_iff_ne]; exact fun e => h (vl_inj.mp e)
theorem ren_any (n : Nat) : n ≤ 100 → RenUpto n := by
  induction n with
  | zero => intro _ t old name w P b h; have := t.size_pos; omega
  | succ n ih =>
    intro hn100 T old name w P b hs hw ho hn hl
    have ih := ih (by omega)
    by_cases h0 : old = name ∨ T.fr old = false
    · have e : renI (n + 1) T old name = some T := by simp only [renI]; rw [if_pos h0]
      rw [e]
      exact ren_early T old name w P b (by omega) hw ho hn hl h0
    have h1 : old ≠ name := fun q => h0 (.inl q)
    have hf : T.fr old = true := by
      cases h : T.fr old with
      | true => rfl
      | false => exact absurd (.inr h) h0
    cases T with
    | leaf k a b => simp [Tm.fr, noS] at hf
    | un k a c t =>
      simp only [Tm.size] at hs
      have hkids : ∀ u, u ∈ (Tm.un k a c t).kids → u.size ≤ n ∧ Wf isLet u := fun u hu => by
        simp only [Tm.kids, List.mem_singleton] at hu; subst hu; exact ⟨by omega, hw.2⟩
      have hl2 : (Tm.un k a c t).kids.length ≤ 2 := by simp [Tm.kids]
      by_cases k1 : k = 33 ∨ k = 61
      · refine ren_name n ih (by omega) _ old name w P b (by simp only [Tm.size]; omega) hw hkids hl2 ho hn hl h1 hf ?_ _ ?_
        · rcases k1 with rfl | rfl
          · exact .inl (vt rfl)
          · exact .inr ⟨vf (c := 61) (d := 33) (by decide), vt rfl⟩
        · simp only [renI, if_neg h0, if_pos k1, Tm.kids, renL, Tm.kind, Tm.na, Tm.nb]
          cases renI n t old name <;> rfl
      have q33 : (vl k == 33) = false := vf fun q => k1 (.inl q)
      have q61 : (vl k == 61) = false := vf fun q => k1 (.inr q)
      by_cases k2 : k = 63
      · refine ren_bindQ n ih (by omega) k a c t old name w P b (by omega) hw ho hn hl h1 hf q33 q61 _ (vt k2) rfl _ ?_
        simp only [renI, if_neg h0, if_neg k1, if_pos k2, if_pos (show k = 63 ∨ k = 35 from .inl k2)]
      by_cases k3 : k = 35
      · refine ren_bindN n ih (by omega) k a c t old name w P b (by omega) hw ho hn hl h1 hf q33 q61 (vf k2) (vt k3) _ ?_
        simp only [renI, if_neg h0, if_neg k1, if_neg k2, if_pos (show k = 63 ∨ k = 35 from .inr k3)]
      · refine ren_other n ih (by omega) _ old name w P b (by simp only [Tm.size]; omega) hw hkids hl2 ho hn hl h1 hf q33 q61 (vf k2) (vf k3) _ ?_
        simp only [renI, if_neg h0, if_neg k1, if_neg (show ¬ (k = 63 ∨ k = 35) from fun q => q.elim k2 k3), Tm.kids, renL, Tm.kind, Tm.na, Tm.nb]
        cases renI n t old name <;> rfl
    | bin k a c t u =>
      simp only [Tm.size] at hs
      obtain ⟨hk, _, _, hw1, hw2⟩ := id hw
      have n33 : k ≠ 33 := by rcases hk with rfl | rfl <;> decide
      have n61 : k ≠ 61 := by rcases hk with rfl | rfl <;> decide
      have n63 : k ≠ 63 := by rcases hk with rfl | rfl <;> decide
      have n35 : k ≠ 35 := by rcases hk with rfl | rfl <;> decide
      refine ren_other n ih (by omega) _ old name w P b (by simp only [Tm.size]; omega) hw (fun v hv => ?_) (by simp [Tm.kids]) ho hn hl h1 hf (vf n33) (vf n61) (vf n63) (vf n35) _ ?_
      · simp only [Tm.kids, List.mem_cons, List.not_mem_nil, or_false] at hv
        rcases hv with rfl | rfl
        · exact ⟨by omega, hw1⟩
        · exact ⟨by omega, hw2⟩
      · simp only [renI, if_neg h0, Tm.kids, renL, Tm.kind, Tm.na, Tm.nb]
        cases renI n t old name <;> simp
        cases renI n u old name <;> rfl

def renO (l : List UInt8) (c d : UInt8) : ByteArray × Bool := match renI 100 (parsed l).1 c d with
  | some u => tolT u
  | none => (B [], false)
def renV (l o m : List UInt8) : ByteArray × Bool := if readOk l = true ∧ oneB o = true ∧ oneB m = true then renO l (o.headD 0) (m.headD 0) else (B [], false)

set_option maxHeartbeats 2000000 in
theorem RenameFree_calls (l o m : List UInt8) (w : World) (hl : l.length ≤ 140737488351232) (ho : o.length ≤ 140737488351232) (hm : m.length ≤ 140737488351232) :
    Calls Try.prog 41 #[.string (B l), .string (B o), .string (B m)] w fun e w' => e = .returned (.tuple #[.string (renV l o m).1, .bool (renV l o m).2]) ∧ Below w.heap.size w w' := by
  go_enter Try.func41, Try.ntmps41
  go_wp2_with fail
  refine (read_calls l w hl).mono ?_
  rintro e w1 ⟨hb, p, rfl, hpp⟩
  rcases hok : readOk l with _ | _
  · have hv : Hid (renV l o m = (B [], false)) := by simp [Hid, renV, hok]
    clear hok hpp
    go_wp2_with fail
    go_ret2
    exact ⟨by rw [hv.out]; rfl, hb⟩
  have hv0 : Hid (renV l o m = if oneB o = true ∧ oneB m = true then renO l (o.headD 0) (m.headD 0) else (B [], false)) := by simp [Hid, renV, hok]
  obtain ⟨b, rfl, hli⟩ := hpp hok
  have HG := Lib.hid (read_good hok)
  have HL := Lib.hid hli
  have HB := Lib.hid hb
  clear hok hpp hb hli
  have ho2 := isName_calls o w1 ho
  have hm2 := isName_calls m w1 hm
  rcases h1 : oneB o with _ | _
  · rw [h1] at ho2
    have hv : Hid (renV l o m = (B [], false)) := by rw [Hid, hv0.out, h1]; rfl
    clear h1 hv0
    go_wp2_with fail
    refine ho2.mono ?_
    rintro e w' ⟨rfl, rfl⟩
    clear ho2 hm2
    go_wp2_with fail
    go_ret2
    exact ⟨by rw [hv.out]; rfl, HB.out⟩
  rw [h1] at ho2
  rcases h2 : oneB m with _ | _
  · rw [h2] at hm2
    have hv : Hid (renV l o m = (B [], false)) := by rw [Hid, hv0.out, h2]; simp
    clear h1 h2 hv0
    go_wp2_with fail
    refine ho2.mono ?_
    rintro e w' ⟨rfl, rfl⟩
    go_wp2_with fail
    refine hm2.mono ?_
    rintro e w' ⟨rfl, rfl⟩
    clear ho2 hm2
    go_wp2_with fail
    go_ret2
    exact ⟨by rw [hv.out]; rfl, HB.out⟩
  rw [h2] at hm2
  obtain ⟨c, rfl, hc⟩ := oneB_iff.mp h1
  obtain ⟨d, rfl, hd⟩ := oneB_iff.mp h2
  have hv : Hid (renV l [c] [d] = match renI 100 (parsed l).1 c d with | some u => tolT u | none => (B [], false)) := by rw [Hid, hv0.out, if_pos ⟨h1, h2⟩]; rfl
  have hz1 : (B [c]).size = 1 := B_size [c]
  have hz2 : (B [d]).size = 1 := B_size [d]
  have hbc := byte_of [c] 0 (by simp)
  have hbd := byte_of [d] 0 (by simp)
  have hren := fun (W : World) (hW : W.heap = w1.heap) => ren_any 100 (by omega) (parsed l).1 c d W (fun _ => True) b (by have := HG.out.2.2.2; omega) HG.out.2.2.1 hc hd (LiesP.keep (fun i _ _ => by rw [hW]) (LiesP.mono (fun _ _ _ => trivial) (LiesP.of HL.out)))
  have HC := Lib.hid hc
  have HD := Lib.hid hd
  clear h1 h2 hv0 hc hd ho hm
  rcases hr : renI 100 (parsed l).1 c d with _ | u
  · rw [hr] at hv hren
    have HR : Hid (∀ (W : World), W.heap = w1.heap → Calls Try.prog 87 #[.pointer (some ⟨b, 0, none⟩), .int .u8 (vl c), .int .u8 (vl d)] W fun e w' => Below W.heap.size W w' ∧ ∃ p, e = .returned (.tuple #[.pointer p, .bool false])) := hren
    clear hr hren
    go_wp2_with fail
    refine ho2.mono ?_
    rintro e w' ⟨rfl, rfl⟩
    go_wp2_with fail
    refine hm2.mono ?_
    rintro e w' ⟨rfl, rfl⟩
    clear ho2 hm2
    go_wp2_with fail
    go_region_held3 (fun _ => True) (trivial) (first | (go_at_call 87; refine (HR.out _ ?_).mono ?_; (exact rfl); rintro e w2 ⟨hb2, q, rfl⟩))
    all_goals
      have HB2 : Hid (Below w.heap.size w w2) := below_then HB.out HB.out.size ⟨hb2.os, hb2.tape, hb2.output, hb2.size, hb2.block⟩
      clear hb2
      go_wp2_with fail
      go_ret2
      exact ⟨by rw [hv.out]; rfl, HB2.out⟩
  · rw [hr] at hv hren
    have hw := ren_wf 100 _ c d HD.out HG.out.2.2.1 u hr
    have hsm := ren_same 100 (parsed l).1 c d HC.out HD.out
    rw [hr] at hsm
    have htl := (renS_wf (P := fun _ => true) (fun _ => rfl) 100 (parsed l).1 c d rfl (wf_any HG.out.2.2.1)).2.2
    rw [show renS 100 (parsed l).1 c d = u from hsm] at htl
    have HW := Lib.hid hw.2
    have HT : Hid (u.text.length ≤ 1000000) := by have h1 := HG.out.1; have h2 := congrArg List.length HG.out.2.1; simp only [Hid]; omega
    have HR : Hid (∀ (W : World), W.heap = w1.heap → Calls Try.prog 87 #[.pointer (some ⟨b, 0, none⟩), .int .u8 (vl c), .int .u8 (vl d)] W fun e w' => Below W.heap.size W w' ∧ ∃ x, e = .returned (.tuple #[.pointer (some ⟨x, 0, none⟩), .bool true]) ∧ Lies w' 0 u x) := fun W hW => (hren W hW).mono fun e w' h => by
      obtain ⟨h1, x, h2, h3⟩ := h
      exact ⟨h1, x, h2, h3.lies⟩
    clear hr hren hw hsm htl
    go_wp2_with fail
    refine ho2.mono ?_
    rintro e w' ⟨rfl, rfl⟩
    go_wp2_with fail
    refine hm2.mono ?_
    rintro e w' ⟨rfl, rfl⟩
    clear ho2 hm2
    go_wp2_with fail
    go_region_held3 (fun _ => True) (trivial) (first | (go_at_call 87; refine (HR.out _ ?_).mono ?_; (exact rfl); rintro e w2 ⟨hb2, x, rfl, hlx⟩))
    all_goals
      have HB2 : Hid (Below w.heap.size w w2) := below_then HB.out HB.out.size ⟨hb2.os, hb2.tape, hb2.output, hb2.size, hb2.block⟩
      have HX := Lib.hid hlx
      clear hb2 hlx
      go_wp2_with fail
      refine (told_calls u _ 0 x HW.out HT.out HX.out).mono ?_
      rintro e w4 ⟨rfl, hb4⟩
      have HB4 := Lib.hid (below_then HB2.out HB2.out.size hb4)
      clear hb4
      go_wp2_with fail
      go_ret2
      exact ⟨by rw [hv.out]; rfl, HB4.out⟩

end Go.Proofs.Ytfcadppidgkoaaa
