/- The walks of the reference's tmIn and soRepeated, at a term's text. -/
import Derived.Test.YtjgfgjhaghbehaaGreatFreeAsoPlace
import Derived.Test.YtjgfgjhaghbehaaGreatSoUsessoPlace
import Derived.Test.YtjgfgjhaghbehaaGreatRepP
namespace Go.Proofs.YtjgfgjhaghbehaaGreat.PsoPlace
open Go.RowKit Go.Proofs.YtjgfgjhaghbehaaGreatW.PrintWords Go.Proofs.YtjgfgjhaghbehaaGreatW.PrintLast Go.Proofs.YtjgfgjhaghbehaaGreatW.PrintMore
set_option linter.unusedVariables false
set_option linter.unusedSimpArgs false

set_option maxHeartbeats 1000000 in
theorem in_calls (l : List UInt8) (c : UInt8) (w : World) (hl : l.length ≤ 140737488351232) : Calls Tryz.prog 70 #[.string (B l), .int .u8 (vl c)] w fun e w' => e = .returned (.bool (decide (c ∈ l))) ∧ w = w' := by
  have hz : (B l).size = l.length := B_size l
  go_enter Tryz.func70, Tryz.ntmps70
  go_wp2_with fail
  go_loop [5] (fun s => ∃ i : Nat, i ≤ l.length ∧ s = .int .i64 i ∧ (l.take i).contains c = false) (fun s => l.length - (intOf s).toNat)
  case atStart => exact ⟨0, by omega, rfl, rfl⟩
  case round =>
    obtain ⟨i, hi, rfl, hf⟩ := hrel
    have HF := Lib.hid hf
    clear hf
    by_cases hlt : i < l.length
    · have hc := byte_of l i hlt
      have hr := eq_v (x := l[i]) c
      by_cases hlet : l[i] = c
      · have HA : Hid (decide (c ∈ l) = true) := by
          show _ = _
          rw [decide_eq_true_eq, ← hlet]; exact List.getElem_mem hlt
        rw [decide_eq_true hlet] at hr
        clear hlet
        go_wp2_with fail
        go_ret
        exact ⟨by rw [HA.out]; rfl, rfl⟩
      · have HA : Hid ((l.take (i + 1)).contains c = false) := by
          show _ = _
          rw [List.take_succ_eq_append_getElem hlt, List.contains_append, HF.out]
          simpa using fun h : c = l[i] => hlet h.symm
        rw [decide_eq_false hlet] at hr
        clear hlet
        go_wp2_with fail
        go_round
        case rel => exact ⟨i + 1, by omega, by go_num, HA.out⟩
        case measure => simp [intOf]; omega
    · have HA : Hid (decide (c ∈ l) = false) := by
        show _ = _
        have h := HF.out
        rw [show i = l.length from by omega, List.take_length] at h; simpa using h
      go_wp2_with fail
      go_ret
      exact ⟨by rw [HA.out]; rfl, rfl⟩

def RepUpto (a : UInt8) (n : Nat) : Prop := ∀ (t : Tm) (w : World), t.size ≤ n → n ≤ 100 → Wf isLet t → t.text.length ≤ 1000 →
    Calls Tryz.prog 37 #[.string (B t.text), .int .u8 (vl a)] w fun e w' => e = .returned (.bool (repB a t)) ∧ Below w.heap.size w w'

set_option maxHeartbeats 4000000 in
set_option maxRecDepth 100000 in
theorem rep_any (a : UInt8) (ha : isLet a = true) (n : Nat) : RepUpto a n := by
  induction n with
  | zero => intro t w h; have := t.size_pos; omega
  | succ n ih =>
    intro t w hs hn hw hlen
    have hwn := Wf.names (fun c => let_name) hw
    have hz : (B t.text).size = t.text.length := B_size _
    have hkl : t.kids.length ≤ 2 := by cases t <;> simp [Tm.kids]
    have hkd := kind_text (k := 3000) hwn (by omega) (by omega)
    have hbd := binds_text (k := 3000) hwn (by omega) (by omega)
    have hpt := parts_text (k := 3000) hwn (by omega) (by omega)
    have hfr := frees_text t 3000 hw (by omega) (by omega)
    have HW := Lib.hid hw
    have hrk := rep_kids a hw
    have HSL := Lib.hid (sort_len t.fr)
    have HCO : Hid (decide (a ∈ sortL t.fr) = t.fr a) := by
      show _ = _
      rw [Bool.eq_iff_iff, decide_eq_true_eq, sort_mem]; simp [ha]
    clear hw hwn
    by_cases hk : t.kind = 42
    · have q1 : (vl t.kind == 42) = true := by rw [show (vl t.kind == 42) = decide (t.kind = 42) from eq_v 42]; exact decide_eq_true hk
      rw [show (t.kind == 42) = true from by simpa using hk, Bool.true_and] at hrk
      have hin := fun W => in_calls (sortL t.fr) a W (by have := HSL.out; omega)
      rw [HCO.out] at hin
      rcases hfa : t.fr a with _ | _
      · rw [hfa, Bool.false_or] at hrk
        have HRK := Lib.hid hrk
        rw [hfa] at hin
        clear hrk hfa HCO hk
        go_enter Tryz.func37, Tryz.ntmps37
        go_wp2_with fail
        refine (spec_tmKind.calls 3000 (B t.text) _ _ hkd).mono ?_
        rintro e w1 ⟨rfl, hd1⟩
        go_wp2_with fail
        refine (spec_tmFree.calls 3000 (B t.text) _ _ hfr).mono ?_
        rintro e w1b ⟨rfl, hd1b⟩
        go_wp2_with fail
        refine (hin _).mono ?_
        rintro e w1c ⟨rfl, rfl⟩
        have HB1 := Lib.hid (below_then hd1.below hd1.below.size hd1b)
        clear hd1 hd1b hin hfr hkd
        by_cases hb : t.kind = 63 ∨ t.kind = 35
        · rw [if_pos hb] at hbd
          have r2 := eq_v (x := t.nb) a
          by_cases h3 : t.nb = a
          · have HU : Hid (repB a t = false) := by
              show _ = _
              rw [HRK.out, show stops a t.kind t.nb = true from by simp [stops, hb, h3]]
              simp
            rw [decide_eq_true h3] at r2
            clear hb h3
            go_wp2_with fail
            refine (spec_tmBinds.calls 3000 (B t.text) _ _ _ hbd).mono ?_
            rintro e w2 ⟨rfl, hd2⟩
            have HB2 := Lib.hid (below_then HB1.out HB1.out.size hd2.below)
            clear hd2 hbd
            go_wp2_with fail
            go_ret
            exact ⟨by rw [HU.out]; rfl, HB2.out⟩
          · have HU : Hid (repB a t = t.kids.any (repB a)) := by
              show _ = _
              rw [HRK.out, show stops a t.kind t.nb = false from by simp [stops, h3]]
              simp
            rw [decide_eq_false h3] at r2
            clear hb h3
            go_wp2_with fail
            refine (spec_tmBinds.calls 3000 (B t.text) _ _ _ hbd).mono ?_
            rintro e w2 ⟨rfl, hd2⟩
            have HB2 := Lib.hid (below_then HB1.out HB1.out.size hd2.below)
            clear hd2 hbd
            go_wp2_with fail
            refine (spec_tmParts.calls 3000 (B t.text) _ _ hpt).mono ?_
            rintro e w3 ⟨v, rfl, R, hb3⟩
            obtain ⟨A, cp, rfl⟩ := Kd.R_slice R
            have hL : (t.kids.map fun u => B u.text).length = t.kids.length := by simp
            have HR := Lib.hid R
            have HB3 := Lib.hid (below_then HB2.out HB2.out.size hb3)
            rw [hL]
            clear R hb3 hpt
            go_wp2_with fail
            go_loopw [32] (fun i wr => ∃ j : Nat, j ≤ t.kids.length ∧ i = .int .i64 j ∧ Hid ((t.kids.take j).any (repB a) = false) ∧ Below w3.heap.size w3 wr) (fun i _ => t.kids.length - (intOf i).toNat)
            case atStart => exact ⟨0, Nat.zero_le _, rfl, rfl, Below.refl _ _⟩
            case round =>
              obtain ⟨j, hj, rfl, HA, hbr⟩ := hrel
              have HBr := Lib.hid hbr
              clear hbr
              by_cases hlt : j < t.kids.length
              · obtain ⟨gp, cap, he, hgb, hgl, cells, hcs⟩ := Kd.R_form HR.out (by rw [hL]; omega)
                injection he with he1 _ he2
                subst he1 he2
                have hcell := (Kd.R_cell ByteArray.empty HR.out (j : Int) (by omega) (by omega)).1
                have hrd : rdOf ByteArray.empty (t.kids.map fun u => B u.text) (j : Int) = B t.kids[j].text := by
                  unfold rdOf; simp [List.getD, List.getElem?_eq_getElem hlt]
                rw [hrd, Int.toNat_natCast] at hcell
                have hc2 : wr.cell? ⟨gp, j, none⟩ = some (.string (B t.kids[j].text)) := (HBr.out.cell hgl).trans hcell
                have h2 := kid_sz t j hlt
                have hrec := ih t.kids[j] wr (by omega) (by omega) (kid_w HW.out j hlt) (by have := kid_txt t j hlt; omega)
                have HT : Hid ((t.kids.take (j + 1)).any (repB a) = repB a t.kids[j]) := by
                  show _ = _
                  rw [List.take_succ_eq_append_getElem hlt, List.any_append, HA.out]; simp
                have HY : Hid (repB a t.kids[j] = true → t.kids.any (repB a) = true) := fun h => List.any_eq_true.mpr ⟨_, List.getElem_mem hlt, h⟩
                clear hcs hcell hrd hgb hgl
                generalize repB a t.kids[j] = rb at hrec HT HY
                cases rb with
                | true =>
                  have HY2 := Lib.hid (HY.out rfl)
                  go_wp2_with fail
                  refine hrec.mono ?_
                  rintro e w4 ⟨rfl, hb4⟩
                  have HB4 := Lib.hid (below_then HBr.out HBr.out.size hb4)
                  clear hrec hb4 hc2
                  go_wp2_with fail
                  go_ret
                  exact ⟨by rw [HU.out, HY2.out]; rfl, below_then HB3.out HB3.out.size HB4.out⟩
                | false =>
                  go_wp2_with fail
                  refine hrec.mono ?_
                  rintro e w4 ⟨rfl, hb4⟩
                  have HB4 := Lib.hid (below_then HBr.out HBr.out.size hb4)
                  clear hrec hb4 hc2
                  go_wp2_with fail
                  go_roundw
                  case rel => exact ⟨j + 1, by omega, by go_num, HT, HB4.out⟩
                  case measure => simp [intOf]; omega
              · have HF : Hid (t.kids.any (repB a) = false) := by
                  show _ = _
                  have h := HA.out
                  rw [List.take_of_length_le (by omega : t.kids.length ≤ j)] at h; exact h
                go_wp2_with fail
                go_ret
                exact ⟨by rw [HU.out, HF.out]; rfl, below_then HB3.out HB3.out.size HBr.out⟩
        · rw [if_neg hb] at hbd
          have HU : Hid (repB a t = t.kids.any (repB a)) := by
            show _ = _
            rw [HRK.out, show stops a t.kind t.nb = false from by simp [stops, hb]]
            simp
          clear hb
          go_wp2_with fail
          refine (spec_tmBinds.calls 3000 (B t.text) _ _ _ hbd).mono ?_
          rintro e w2 ⟨rfl, hd2⟩
          have HB2 := Lib.hid (below_then HB1.out HB1.out.size hd2.below)
          clear hd2 hbd
          go_wp2_with fail
          refine (spec_tmParts.calls 3000 (B t.text) _ _ hpt).mono ?_
          rintro e w3 ⟨v, rfl, R, hb3⟩
          obtain ⟨A, cp, rfl⟩ := Kd.R_slice R
          have hL : (t.kids.map fun u => B u.text).length = t.kids.length := by simp
          have HR := Lib.hid R
          have HB3 := Lib.hid (below_then HB2.out HB2.out.size hb3)
          rw [hL]
          clear R hb3 hpt
          go_wp2_with fail
          go_loopw [32] (fun i wr => ∃ j : Nat, j ≤ t.kids.length ∧ i = .int .i64 j ∧ Hid ((t.kids.take j).any (repB a) = false) ∧ Below w3.heap.size w3 wr) (fun i _ => t.kids.length - (intOf i).toNat)
          case atStart => exact ⟨0, Nat.zero_le _, rfl, rfl, Below.refl _ _⟩
          case round =>
            obtain ⟨j, hj, rfl, HA, hbr⟩ := hrel
            have HBr := Lib.hid hbr
            clear hbr
            by_cases hlt : j < t.kids.length
            · obtain ⟨gp, cap, he, hgb, hgl, cells, hcs⟩ := Kd.R_form HR.out (by rw [hL]; omega)
              injection he with he1 _ he2
              subst he1 he2
              have hcell := (Kd.R_cell ByteArray.empty HR.out (j : Int) (by omega) (by omega)).1
              have hrd : rdOf ByteArray.empty (t.kids.map fun u => B u.text) (j : Int) = B t.kids[j].text := by
                unfold rdOf; simp [List.getD, List.getElem?_eq_getElem hlt]
              rw [hrd, Int.toNat_natCast] at hcell
              have hc2 : wr.cell? ⟨gp, j, none⟩ = some (.string (B t.kids[j].text)) := (HBr.out.cell hgl).trans hcell
              have h2 := kid_sz t j hlt
              have hrec := ih t.kids[j] wr (by omega) (by omega) (kid_w HW.out j hlt) (by have := kid_txt t j hlt; omega)
              have HT : Hid ((t.kids.take (j + 1)).any (repB a) = repB a t.kids[j]) := by
                show _ = _
                rw [List.take_succ_eq_append_getElem hlt, List.any_append, HA.out]; simp
              have HY : Hid (repB a t.kids[j] = true → t.kids.any (repB a) = true) := fun h => List.any_eq_true.mpr ⟨_, List.getElem_mem hlt, h⟩
              clear hcs hcell hrd hgb hgl
              generalize repB a t.kids[j] = rb at hrec HT HY
              cases rb with
              | true =>
                have HY2 := Lib.hid (HY.out rfl)
                go_wp2_with fail
                refine hrec.mono ?_
                rintro e w4 ⟨rfl, hb4⟩
                have HB4 := Lib.hid (below_then HBr.out HBr.out.size hb4)
                clear hrec hb4 hc2
                go_wp2_with fail
                go_ret
                exact ⟨by rw [HU.out, HY2.out]; rfl, below_then HB3.out HB3.out.size HB4.out⟩
              | false =>
                go_wp2_with fail
                refine hrec.mono ?_
                rintro e w4 ⟨rfl, hb4⟩
                have HB4 := Lib.hid (below_then HBr.out HBr.out.size hb4)
                clear hrec hb4 hc2
                go_wp2_with fail
                go_roundw
                case rel => exact ⟨j + 1, by omega, by go_num, HT, HB4.out⟩
                case measure => simp [intOf]; omega
            · have HF : Hid (t.kids.any (repB a) = false) := by
                show _ = _
                have h := HA.out
                rw [List.take_of_length_le (by omega : t.kids.length ≤ j)] at h; exact h
              go_wp2_with fail
              go_ret
              exact ⟨by rw [HU.out, HF.out]; rfl, below_then HB3.out HB3.out.size HBr.out⟩
      · have HRK : Hid (repB a t = true) := by
          show _ = _
          rw [hrk, hfa]; rfl
        rw [hfa] at hin
        clear hrk hfa HCO hk
        go_enter Tryz.func37, Tryz.ntmps37
        go_wp2_with fail
        refine (spec_tmKind.calls 3000 (B t.text) _ _ hkd).mono ?_
        rintro e w1 ⟨rfl, hd1⟩
        go_wp2_with fail
        refine (spec_tmFree.calls 3000 (B t.text) _ _ hfr).mono ?_
        rintro e w1b ⟨rfl, hd1b⟩
        go_wp2_with fail
        refine (hin _).mono ?_
        rintro e w1c ⟨rfl, rfl⟩
        have HB1 := Lib.hid (below_then hd1.below hd1.below.size hd1b)
        clear hd1 hd1b hin hfr hkd
        go_wp2_with fail
        go_ret
        exact ⟨by rw [HRK.out]; rfl, HB1.out⟩
    · have q1 : (vl t.kind == 42) = false := by rw [show (vl t.kind == 42) = decide (t.kind = 42) from eq_v 42]; exact decide_eq_false hk
      rw [show (t.kind == 42) = false from by simpa using hk, Bool.false_and, Bool.false_or] at hrk
      have HRK := Lib.hid hrk
      clear hrk hk hfr
      go_enter Tryz.func37, Tryz.ntmps37
      go_wp2_with fail
      refine (spec_tmKind.calls 3000 (B t.text) _ _ hkd).mono ?_
      rintro e w1 ⟨rfl, hd1⟩
      have HB1 := Lib.hid hd1.below
      clear hd1 hkd
      by_cases hb : t.kind = 63 ∨ t.kind = 35
      · rw [if_pos hb] at hbd
        have r2 := eq_v (x := t.nb) a
        by_cases h3 : t.nb = a
        · have HU : Hid (repB a t = false) := by
            show _ = _
            rw [HRK.out, show stops a t.kind t.nb = true from by simp [stops, hb, h3]]
            simp
          rw [decide_eq_true h3] at r2
          clear hb h3
          go_wp2_with fail
          refine (spec_tmBinds.calls 3000 (B t.text) _ _ _ hbd).mono ?_
          rintro e w2 ⟨rfl, hd2⟩
          have HB2 := Lib.hid (below_then HB1.out HB1.out.size hd2.below)
          clear hd2 hbd
          go_wp2_with fail
          go_ret
          exact ⟨by rw [HU.out]; rfl, HB2.out⟩
        · have HU : Hid (repB a t = t.kids.any (repB a)) := by
            show _ = _
            rw [HRK.out, show stops a t.kind t.nb = false from by simp [stops, h3]]
            simp
          rw [decide_eq_false h3] at r2
          clear hb h3
          go_wp2_with fail
          refine (spec_tmBinds.calls 3000 (B t.text) _ _ _ hbd).mono ?_
          rintro e w2 ⟨rfl, hd2⟩
          have HB2 := Lib.hid (below_then HB1.out HB1.out.size hd2.below)
          clear hd2 hbd
          go_wp2_with fail
          refine (spec_tmParts.calls 3000 (B t.text) _ _ hpt).mono ?_
          rintro e w3 ⟨v, rfl, R, hb3⟩
          obtain ⟨A, cp, rfl⟩ := Kd.R_slice R
          have hL : (t.kids.map fun u => B u.text).length = t.kids.length := by simp
          have HR := Lib.hid R
          have HB3 := Lib.hid (below_then HB2.out HB2.out.size hb3)
          rw [hL]
          clear R hb3 hpt
          go_wp2_with fail
          go_loopw [32] (fun i wr => ∃ j : Nat, j ≤ t.kids.length ∧ i = .int .i64 j ∧ Hid ((t.kids.take j).any (repB a) = false) ∧ Below w3.heap.size w3 wr) (fun i _ => t.kids.length - (intOf i).toNat)
          case atStart => exact ⟨0, Nat.zero_le _, rfl, rfl, Below.refl _ _⟩
          case round =>
            obtain ⟨j, hj, rfl, HA, hbr⟩ := hrel
            have HBr := Lib.hid hbr
            clear hbr
            by_cases hlt : j < t.kids.length
            · obtain ⟨gp, cap, he, hgb, hgl, cells, hcs⟩ := Kd.R_form HR.out (by rw [hL]; omega)
              injection he with he1 _ he2
              subst he1 he2
              have hcell := (Kd.R_cell ByteArray.empty HR.out (j : Int) (by omega) (by omega)).1
              have hrd : rdOf ByteArray.empty (t.kids.map fun u => B u.text) (j : Int) = B t.kids[j].text := by
                unfold rdOf; simp [List.getD, List.getElem?_eq_getElem hlt]
              rw [hrd, Int.toNat_natCast] at hcell
              have hc2 : wr.cell? ⟨gp, j, none⟩ = some (.string (B t.kids[j].text)) := (HBr.out.cell hgl).trans hcell
              have h2 := kid_sz t j hlt
              have hrec := ih t.kids[j] wr (by omega) (by omega) (kid_w HW.out j hlt) (by have := kid_txt t j hlt; omega)
              have HT : Hid ((t.kids.take (j + 1)).any (repB a) = repB a t.kids[j]) := by
                show _ = _
                rw [List.take_succ_eq_append_getElem hlt, List.any_append, HA.out]; simp
              have HY : Hid (repB a t.kids[j] = true → t.kids.any (repB a) = true) := fun h => List.any_eq_true.mpr ⟨_, List.getElem_mem hlt, h⟩
              clear hcs hcell hrd hgb hgl
              generalize repB a t.kids[j] = rb at hrec HT HY
              cases rb with
              | true =>
                have HY2 := Lib.hid (HY.out rfl)
                go_wp2_with fail
                refine hrec.mono ?_
                rintro e w4 ⟨rfl, hb4⟩
                have HB4 := Lib.hid (below_then HBr.out HBr.out.size hb4)
                clear hrec hb4 hc2
                go_wp2_with fail
                go_ret
                exact ⟨by rw [HU.out, HY2.out]; rfl, below_then HB3.out HB3.out.size HB4.out⟩
              | false =>
                go_wp2_with fail
                refine hrec.mono ?_
                rintro e w4 ⟨rfl, hb4⟩
                have HB4 := Lib.hid (below_then HBr.out HBr.out.size hb4)
                clear hrec hb4 hc2
                go_wp2_with fail
                go_roundw
                case rel => exact ⟨j + 1, by omega, by go_num, HT, HB4.out⟩
                case measure => simp [intOf]; omega
            · have HF : Hid (t.kids.any (repB a) = false) := by
                show _ = _
                have h := HA.out
                rw [List.take_of_length_le (by omega : t.kids.length ≤ j)] at h; exact h
              go_wp2_with fail
              go_ret
              exact ⟨by rw [HU.out, HF.out]; rfl, below_then HB3.out HB3.out.size HBr.out⟩
      · rw [if_neg hb] at hbd
        have HU : Hid (repB a t = t.kids.any (repB a)) := by
          show _ = _
          rw [HRK.out, show stops a t.kind t.nb = false from by simp [stops, hb]]
          simp
        clear hb
        go_wp2_with fail
        refine (spec_tmBinds.calls 3000 (B t.text) _ _ _ hbd).mono ?_
        rintro e w2 ⟨rfl, hd2⟩
        have HB2 := Lib.hid (below_then HB1.out HB1.out.size hd2.below)
        clear hd2 hbd
        go_wp2_with fail
        refine (spec_tmParts.calls 3000 (B t.text) _ _ hpt).mono ?_
        rintro e w3 ⟨v, rfl, R, hb3⟩
        obtain ⟨A, cp, rfl⟩ := Kd.R_slice R
        have hL : (t.kids.map fun u => B u.text).length = t.kids.length := by simp
        have HR := Lib.hid R
        have HB3 := Lib.hid (below_then HB2.out HB2.out.size hb3)
        rw [hL]
        clear R hb3 hpt
        go_wp2_with fail
        go_loopw [32] (fun i wr => ∃ j : Nat, j ≤ t.kids.length ∧ i = .int .i64 j ∧ Hid ((t.kids.take j).any (repB a) = false) ∧ Below w3.heap.size w3 wr) (fun i _ => t.kids.length - (intOf i).toNat)
        case atStart => exact ⟨0, Nat.zero_le _, rfl, rfl, Below.refl _ _⟩
        case round =>
          obtain ⟨j, hj, rfl, HA, hbr⟩ := hrel
          have HBr := Lib.hid hbr
          clear hbr
          by_cases hlt : j < t.kids.length
          · obtain ⟨gp, cap, he, hgb, hgl, cells, hcs⟩ := Kd.R_form HR.out (by rw [hL]; omega)
            injection he with he1 _ he2
            subst he1 he2
            have hcell := (Kd.R_cell ByteArray.empty HR.out (j : Int) (by omega) (by omega)).1
            have hrd : rdOf ByteArray.empty (t.kids.map fun u => B u.text) (j : Int) = B t.kids[j].text := by
              unfold rdOf; simp [List.getD, List.getElem?_eq_getElem hlt]
            rw [hrd, Int.toNat_natCast] at hcell
            have hc2 : wr.cell? ⟨gp, j, none⟩ = some (.string (B t.kids[j].text)) := (HBr.out.cell hgl).trans hcell
            have h2 := kid_sz t j hlt
            have hrec := ih t.kids[j] wr (by omega) (by omega) (kid_w HW.out j hlt) (by have := kid_txt t j hlt; omega)
            have HT : Hid ((t.kids.take (j + 1)).any (repB a) = repB a t.kids[j]) := by
              show _ = _
              rw [List.take_succ_eq_append_getElem hlt, List.any_append, HA.out]; simp
            have HY : Hid (repB a t.kids[j] = true → t.kids.any (repB a) = true) := fun h => List.any_eq_true.mpr ⟨_, List.getElem_mem hlt, h⟩
            clear hcs hcell hrd hgb hgl
            generalize repB a t.kids[j] = rb at hrec HT HY
            cases rb with
            | true =>
              have HY2 := Lib.hid (HY.out rfl)
              go_wp2_with fail
              refine hrec.mono ?_
              rintro e w4 ⟨rfl, hb4⟩
              have HB4 := Lib.hid (below_then HBr.out HBr.out.size hb4)
              clear hrec hb4 hc2
              go_wp2_with fail
              go_ret
              exact ⟨by rw [HU.out, HY2.out]; rfl, below_then HB3.out HB3.out.size HB4.out⟩
            | false =>
              go_wp2_with fail
              refine hrec.mono ?_
              rintro e w4 ⟨rfl, hb4⟩
              have HB4 := Lib.hid (below_then HBr.out HBr.out.size hb4)
              clear hrec hb4 hc2
              go_wp2_with fail
              go_roundw
              case rel => exact ⟨j + 1, by omega, by go_num, HT, HB4.out⟩
              case measure => simp [intOf]; omega
          · have HF : Hid (t.kids.any (repB a) = false) := by
              show _ = _
              have h := HA.out
              rw [List.take_of_length_le (by omega : t.kids.length ≤ j)] at h; exact h
            go_wp2_with fail
            go_ret
            exact ⟨by rw [HU.out, HF.out]; rfl, below_then HB3.out HB3.out.size HBr.out⟩

end Go.Proofs.YtjgfgjhaghbehaaGreat.PsoPlace
