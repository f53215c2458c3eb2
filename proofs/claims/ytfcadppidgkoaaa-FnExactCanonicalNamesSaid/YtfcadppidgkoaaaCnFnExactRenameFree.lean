/- The reference's tmCanonical, walked. -/
import Derived.Test.YtfcadppidgkoaaaRnFnExactRenameFree
import Derived.Test.YtfcadppidgkoaaaCanP
namespace Go.Proofs.Ytfcadppidgkoaaa.PFnExactRenameFree
open Go.RowKit Go.Proofs.YtfcadppidgkoaaaW.PrintWords Go.Proofs.YtfcadppidgkoaaaW.PrintLast Go.Proofs.YtfcadppidgkoaaaW.PrintMore
set_option linter.unusedVariables false
set_option linter.unusedSimpArgs false

def CnPost (w : World) (r : Tm × List UInt8) (e : Ending) (w' : World) : Prop := e = .returned (.tuple #[.string (B r.1.text), .string (B r.2)]) ∧ Below w.heap.size w w'
def CnUpto (n : Nat) : Prop := ∀ (t : Tm) (s : List UInt8) (w : World) (L : List UInt8), t.size ≤ n → Wf nameB t → t.text.length ≤ 1000 → s.length + t.size ≤ 400 → HiB L t.fr → L.length + t.size ≤ 61 →
    Calls Try.prog 89 #[.string (B t.text), .string (B s)] w (CnPost w (canS n t s))
structure CnS (T : Tm) (s : List UInt8) (hd : List UInt8) (x : Int) (isB : Bool) (y : UInt8) : Prop where
  he : spec_tmHead.f 3000 (B T.text) = some ((hd.length : Nat) : Int)
  bi : spec_tmBinds.f 3000 (B T.text) = some (x, isB)
  kd : spec_tmKind.f 3000 (B T.text) = some (vl T.kind)
  ex : (B T.text).extract 0 hd.length = B hd
  sz : hd.length ≤ (B T.text).size
  fs : spec_tmFresh.f 3000 (B s) = some (vl y)
theorem CnS.un {k a b : UInt8} {t : Tm} {s : List UInt8} {hd : List UInt8} (h : (Tm.un k a b t).text = hd ++ t.text) (hh : hd.length = headLen k) (hs : (Tm.un k a b t).size ≤ 300) (hw : Wf nameB (.un k a b t)) (hl : (Tm.un k a b t).text.length ≤ 1000) (hk : k = 63 ∨ k = 35) (hsl : s.length ≤ 400) :
    CnS (.un k a b t) s hd (vl b) true (freshB (inS s)) := by
  obtain ⟨n1, n2, n3⟩ := un_kind hw
  refine ⟨?_, ?_, ?_, ?_, ?_, tmFresh_f s 3000 (by omega) (by omega)⟩
  · have := head_text (k := 3000) hw (by omega) (by omega)
    rw [if_neg (show ¬ ((Tm.un k a b t).kind = 43 ∨ (Tm.un k a b t).kind = 38) from by rintro (h | h); exact n2 h; exact n3 h)] at this
    rw [this, hh]; rfl
  · have := binds_text (k := 3000) hw (by omega) (by omega)
    rw [this, if_pos (show (Tm.un k a b t).kind = 63 ∨ (Tm.un k a b t).kind = 35 from hk)]; rfl
  · exact kind_text (k := 3000) hw (by omega) (by omega)
  · rw [B_extract, h]; simp
  · rw [B_size, h]; simp
theorem rvt_63 : (vl (63 : UInt8) == 63) = true := rfl
theorem rvt_35 : (vl (35 : UInt8) == 63) = false := rvf (c := 35) (d := 63) (by decide)
set_option maxHeartbeats 2000000 in
set_option maxRecDepth 100000 in
theorem cn_63 (n : Nat) (ih : CnUpto n) (a b : UInt8) (t : Tm) (s : List UInt8) (w : World) (L : List UInt8) (hs : (Tm.un 63 a b t).size ≤ n + 1) (hn : n ≤ 99) (hw : Wf nameB (.un 63 a b t)) (hl : (Tm.un 63 a b t).text.length ≤ 1000) (hsl : s.length + (Tm.un 63 a b t).size ≤ 400) (hL : HiB L (Tm.un 63 a b t).fr) (hL2 : L.length + (Tm.un 63 a b t).size ≤ 61) :
    Calls Try.prog 89 #[.string (B (Tm.un 63 a b t).text), .string (B s)] w (CnPost w (canS (n + 1) (.un 63 a b t) s)) := by
  have hsz0 := t.size_pos
  simp only [Tm.size] at hs hsl hL2
  have HS := Lib.hid (CnS.un (s := s) (hd := [a, 63, b, 46]) rfl rfl (by simp only [Tm.size]; omega) hw hl (by decide) (by omega))
  have HX : Hid ((B (Tm.un 63 a b t).text).extract 4 (B (Tm.un 63 a b t).text).size = B t.text) := by rw [Hid, B_size, B_extract]; simp [Tm.text]
  have htl : t.text.length ≤ 1000 := by simp only [Tm.text, List.length_append] at hl; omega
  have hyn : nameB (freshB (inS s)) = true := freshB_name _
  rw [show canS (n + 1) (.un 63 a b t) s = if 122 < vl (freshB (inS s)) then (.un 63 a b t, [0]) else (.un 63 a (freshB (inS s)) (canS n (renS 100 t b (freshB (inS s))) (insL (freshB (inS s)) s)).1, (canS n (renS 100 t b (freshB (inS s))) (insL (freshB (inS s)) s)).2) from by simp only [canS]; rw [if_pos (by decide)]]
  generalize freshB (inS s) = y at HS hyn ⊢
  by_cases hy : 122 < vl y
  next =>
    rw [if_pos hy]
    clear hs hn hw hl hsl hL hL2 ih hsz0 htl hyn HX
    go_enter Try.func89, Try.ntmps89
    go_wp2_with fail
    refine (spec_tmBinds.calls 3000 _ _ _ _ HS.out.bi).mono ?_
    rintro e w1 ⟨rfl, hd1⟩
    go_wp2_with fail
    refine (spec_tmFresh.calls 3000 _ _ _ HS.out.fs).mono ?_
    rintro e w2 ⟨rfl, hd2⟩
    have HB2 : Hid (Below w.heap.size w w2) := below_step hd1.below hd2.below
    clear hd1 hd2
    go_wp2_with fail
    go_ret2
    exact ⟨rfl, HB2.out⟩
  rw [if_neg hy]
  have hbn : nameB b = true := by
    rcases hw.1 with ⟨_, _, h⟩ | ⟨_, _, h⟩ | ⟨h, _, _⟩
    · exact h
    · exact h
    · rcases h with h | h <;> exact absurd h (by decide)
  have hz := renS_wf freshB_name 100 t b y hyn hw.2
  have hL1 : HiB (b :: L) t.fr := fun d hd hv => by
    rcases fr_un (k := 63) (a := a) (b := b) hd with h | h
    · exact List.mem_cons_of_mem _ (hL d h hv)
    · rw [h]; simp
  have hE : Enough t b y := ⟨b :: L, hL1.of fun d hd => by
    rcases tkS_or hd with h | h | h
    · exact .inl h
    · right; left; rw [h]; simp
    · right; right; rw [h]; omega, by simp only [List.length_cons]; omega⟩
  have hLr : HiB (b :: L) (renS 100 t b y).fr := hL1.of fun d hd => by
    rcases fr_ren 100 t b y d hd with h | h
    · exact .inl h
    · right; right; rw [h]; omega
  have HRN := Lib.hid (fun W => rn_any 100 (by omega) t b y W (by omega) hw.2 htl hbn hyn hE)
  have hil := insL_len y s
  have HAD := Lib.hid (add_f s (by omega) y 3000 (by omega))
  have HI := Lib.hid (fun W => ih (renS 100 t b y) (insL y s) W (b :: L) (by rw [hz.1]; omega) hz.2.1 (by rw [hz.2.2]; exact htl) (by rw [hz.1]; omega) hLr (by rw [hz.1, List.length_cons]; omega))
  have hr1 := (canS_wf freshB_name n (renS 100 t b y) (insL y s) hz.2.1).2.2.1
  rw [hz.2.2] at hr1
  generalize insL y s = s' at HAD HI hr1 ⊢
  generalize renS 100 t b y = t1 at HRN HI hr1 ⊢
  generalize canS n t1 s' = r at HI hr1 ⊢
  have HT : Hid (r.1.text.length ≤ 1000) := by rw [Hid, hr1]; exact htl
  clear hs hn hw hl hsl hL hL2 ih hsz0 htl hyn hbn hz hL1 hE hLr hil hr1
  go_enter Try.func89, Try.ntmps89
  go_wp2_with fail
  refine (spec_tmBinds.calls 3000 _ _ _ _ HS.out.bi).mono ?_
  rintro e w1 ⟨rfl, hd1⟩
  go_wp2_with fail
  refine (spec_tmFresh.calls 3000 _ _ _ HS.out.fs).mono ?_
  rintro e w2 ⟨rfl, hd2⟩
  have HB2 : Hid (Below w.heap.size w w2) := below_step hd1.below hd2.below
  clear hd1 hd2
  go_wp2_with fail
  refine (spec_tmHead.calls 3000 _ _ _ HS.out.he).mono ?_
  rintro e w3 ⟨rfl, hd3⟩
  have hb1 := below_step HB2.out hd3.below
  clear hd3
  have hex : (B (Tm.un 63 a b t).text).extract 0 4 = B [a, 63, b, 46] := HS.out.ex
  have hsz := HS.out.sz
  have hcv := Lib.run_convert_string_bytes (P := Try.prog) w3 9 98 5 (B [a, 63, b, 46]) Try.underlying9 Try.underlying98 Try.underlying5
  have hh4 := head_new w3 5 [a, 63, b, 46]
  have hb4 := below_step hb1 (below_bytes w3 5 (B [a, 63, b, 46]))
  generalize Lib.bytesWorld w3 5 (B [a, 63, b, 46]) = W4 at hcv hh4 hb4
  rw [B_size] at hcv
  generalize grownCap w3 [a, 63, b, 46].length 0 5 = cap at hcv
  replace hcv : (convert 9 98 (.string (B [a, 63, b, 46]))).run Try.prog w3 = .ok (.slice (some ⟨w3.heap.size, 0, none⟩) 4 cap) W4 := hcv
  replace hsz : (4 : Int) ≤ ((B (Tm.un 63 a b t).text).size : Int) := by have h1 : 4 ≤ (B (Tm.un 63 a b t).text).size := hsz; omega
  have hg : w.heap.size ≤ w3.heap.size := hb1.size
  generalize hgg : w3.heap.size = g at hcv hh4 hg
  have HH := Lib.hid hh4
  have HB := Lib.hid hb4
  have HG := Lib.hid hg
  have hex2 : (B (Tm.un 63 a b t).text).extract 4 (B (Tm.un 63 a b t).text).size = B t.text := HX.out
  clear hb1 hgg hh4 hb4 hg
  go_wp2_with fail
  refine (HRN.out _).mono ?_
  rintro e W5 ⟨rfl, hb5⟩
  go_wp2_with fail
  refine (spec_tmAdd.calls 3000 _ _ _ _ HAD.out).mono ?_
  rintro e W6 ⟨rfl, hb6⟩
  go_wp2_with fail
  refine (HI.out _).mono ?_
  rintro e W7 ⟨rfl, hb7⟩
  have HH5 := Lib.hid (((HH.out.below hb5).below hb6).below hb7)
  have HB5 := Lib.hid (below_step (below_step (below_step HB.out hb5) hb6) hb7)
  clear hb5 hb6 hb7 HH HB hcv hex hex2
  have k1 : (vl (Tm.un 63 a b t).kind == 63) = true := rvt_63
  go_wp2_with fail
  refine (spec_tmKind.calls 3000 _ _ _ HS.out.kd).mono ?_
  rintro e W6 ⟨rfl, hd6⟩
  have HH6 := Lib.hid (HH5.out.below hd6.below)
  have HB6 := Lib.hid (below_step HB5.out hd6.below)
  clear hd6 HH5 HB5
  have c0 := HH6.out.cell (j := 2) (c := b) rfl
  have f0 := HH6.out.frozen (j := 2) (by simp)
  go_upto_region 11 with fail
  refine name_world ?_
  intro W9 hW9
  have HH9 : Hid (HeadAt W9 g [a, 63, y, 46]) := by rw [hW9]; exact HH6.out.set 2 _
  have HB9 : Hid (Below w.heap.size w W9) := by rw [hW9]; exact HB6.out.setCell HG.out _
  clear hW9 c0 f0 HH6 HB6
  have hcv : (convert 98 9 (.slice (some ⟨g, 0, none⟩) 4 cap)).run Try.prog W9 = .ok (.string (B [a, 63, y, 46])) W9 := HH9.out.conv cap
  have hz1 : (B [a, 63, y, 46]).size = 4 := B_size _
  have hz2 : (B r.1.text).size = r.1.text.length := B_size _
  have hb1 : (9223372036854775807 < 4 + r.1.text.length) = False := eq_false (by have := HT.out; omega)
  go_wp2_with fail
  go_ret2
  have hfin : B [a, 63, y, 46] ++ B r.1.text = B ([a, 63, y, 46] ++ r.1.text) := B_append _ _
  exact ⟨congrArg (fun x => Ending.returned (Value.tuple #[Value.string x, Value.string (B r.2)])) hfin, HB9.out⟩
set_option maxHeartbeats 2000000 in
set_option maxRecDepth 100000 in
theorem cn_35 (n : Nat) (ih : CnUpto n) (a b : UInt8) (t : Tm) (s : List UInt8) (w : World) (L : List UInt8) (hs : (Tm.un 35 a b t).size ≤ n + 1) (hn : n ≤ 99) (hw : Wf nameB (.un 35 a b t)) (hl : (Tm.un 35 a b t).text.length ≤ 1000) (hsl : s.length + (Tm.un 35 a b t).size ≤ 400) (hL : HiB L (Tm.un 35 a b t).fr) (hL2 : L.length + (Tm.un 35 a b t).size ≤ 61) :
    Calls Try.prog 89 #[.string (B (Tm.un 35 a b t).text), .string (B s)] w (CnPost w (canS (n + 1) (.un 35 a b t) s)) := by
  have hsz0 := t.size_pos
  simp only [Tm.size] at hs hsl hL2
  have HS := Lib.hid (CnS.un (s := s) (hd := [35, b, 46]) rfl rfl (by simp only [Tm.size]; omega) hw hl (by decide) (by omega))
  have HX : Hid ((B (Tm.un 35 a b t).text).extract 3 (B (Tm.un 35 a b t).text).size = B t.text) := by rw [Hid, B_size, B_extract]; simp [Tm.text]
  have htl : t.text.length ≤ 1000 := by simp only [Tm.text, List.length_append] at hl; omega
  have hyn : nameB (freshB (inS s)) = true := freshB_name _
  rw [show canS (n + 1) (.un 35 a b t) s = if 122 < vl (freshB (inS s)) then (.un 35 a b t, [0]) else (.un 35 a (freshB (inS s)) (canS n (renS 100 t b (freshB (inS s))) (insL (freshB (inS s)) s)).1, (canS n (renS 100 t b (freshB (inS s))) (insL (freshB (inS s)) s)).2) from by simp only [canS]; rw [if_pos (by decide)]]
  generalize freshB (inS s) = y at HS hyn ⊢
  by_cases hy : 122 < vl y
  next =>
    rw [if_pos hy]
    clear hs hn hw hl hsl hL hL2 ih hsz0 htl hyn HX
    go_enter Try.func89, Try.ntmps89
    go_wp2_with fail
    refine (spec_tmBinds.calls 3000 _ _ _ _ HS.out.bi).mono ?_
    rintro e w1 ⟨rfl, hd1⟩
    go_wp2_with fail
    refine (spec_tmFresh.calls 3000 _ _ _ HS.out.fs).mono ?_
    rintro e w2 ⟨rfl, hd2⟩
    have HB2 : Hid (Below w.heap.size w w2) := below_step hd1.below hd2.below
    clear hd1 hd2
    go_wp2_with fail
    go_ret2
    exact ⟨rfl, HB2.out⟩
  rw [if_neg hy]
  have hbn : nameB b = true := by
    rcases hw.1 with ⟨_, _, h⟩ | ⟨_, _, h⟩ | ⟨h, _, _⟩
    · exact h
    · exact h
    · rcases h with h | h <;> exact absurd h (by decide)
  have hz := renS_wf freshB_name 100 t b y hyn hw.2
  have hL1 : HiB (b :: L) t.fr := fun d hd hv => by
    rcases fr_un (k := 35) (a := a) (b := b) hd with h | h
    · exact List.mem_cons_of_mem _ (hL d h hv)
    · rw [h]; simp
  have hE : Enough t b y := ⟨b :: L, hL1.of fun d hd => by
    rcases tkS_or hd with h | h | h
    · exact .inl h
    · right; left; rw [h]; simp
    · right; right; rw [h]; omega, by simp only [List.length_cons]; omega⟩
  have hLr : HiB (b :: L) (renS 100 t b y).fr := hL1.of fun d hd => by
    rcases fr_ren 100 t b y d hd with h | h
    · exact .inl h
    · right; right; rw [h]; omega
  have HRN := Lib.hid (fun W => rn_any 100 (by omega) t b y W (by omega) hw.2 htl hbn hyn hE)
  have hil := insL_len y s
  have HAD := Lib.hid (add_f s (by omega) y 3000 (by omega))
  have HI := Lib.hid (fun W => ih (renS 100 t b y) (insL y s) W (b :: L) (by rw [hz.1]; omega) hz.2.1 (by rw [hz.2.2]; exact htl) (by rw [hz.1]; omega) hLr (by rw [hz.1, List.length_cons]; omega))
  have hr1 := (canS_wf freshB_name n (renS 100 t b y) (insL y s) hz.2.1).2.2.1
  rw [hz.2.2] at hr1
  generalize insL y s = s' at HAD HI hr1 ⊢
  generalize renS 100 t b y = t1 at HRN HI hr1 ⊢
  generalize canS n t1 s' = r at HI hr1 ⊢
  have HT : Hid (r.1.text.length ≤ 1000) := by rw [Hid, hr1]; exact htl
  clear hs hn hw hl hsl hL hL2 ih hsz0 htl hyn hbn hz hL1 hE hLr hil hr1
  go_enter Try.func89, Try.ntmps89
  go_wp2_with fail
  refine (spec_tmBinds.calls 3000 _ _ _ _ HS.out.bi).mono ?_
  rintro e w1 ⟨rfl, hd1⟩
  go_wp2_with fail
  refine (spec_tmFresh.calls 3000 _ _ _ HS.out.fs).mono ?_
  rintro e w2 ⟨rfl, hd2⟩
  have HB2 : Hid (Below w.heap.size w w2) := below_step hd1.below hd2.below
  clear hd1 hd2
  go_wp2_with fail
  refine (spec_tmHead.calls 3000 _ _ _ HS.out.he).mono ?_
  rintro e w3 ⟨rfl, hd3⟩
  have hb1 := below_step HB2.out hd3.below
  clear hd3
  have hex : (B (Tm.un 35 a b t).text).extract 0 3 = B [35, b, 46] := HS.out.ex
  have hsz := HS.out.sz
  have hcv := Lib.run_convert_string_bytes (P := Try.prog) w3 9 98 5 (B [35, b, 46]) Try.underlying9 Try.underlying98 Try.underlying5
  have hh4 := head_new w3 5 [35, b, 46]
  have hb4 := below_step hb1 (below_bytes w3 5 (B [35, b, 46]))
  generalize Lib.bytesWorld w3 5 (B [35, b, 46]) = W4 at hcv hh4 hb4
  rw [B_size] at hcv
  generalize grownCap w3 [35, b, 46].length 0 5 = cap at hcv
  replace hcv : (convert 9 98 (.string (B [35, b, 46]))).run Try.prog w3 = .ok (.slice (some ⟨w3.heap.size, 0, none⟩) 3 cap) W4 := hcv
  replace hsz : (3 : Int) ≤ ((B (Tm.un 35 a b t).text).size : Int) := by have h1 : 3 ≤ (B (Tm.un 35 a b t).text).size := hsz; omega
  have hg : w.heap.size ≤ w3.heap.size := hb1.size
  generalize hgg : w3.heap.size = g at hcv hh4 hg
  have HH := Lib.hid hh4
  have HB := Lib.hid hb4
  have HG := Lib.hid hg
  have hex2 : (B (Tm.un 35 a b t).text).extract 3 (B (Tm.un 35 a b t).text).size = B t.text := HX.out
  clear hb1 hgg hh4 hb4 hg
  go_wp2_with fail
  refine (HRN.out _).mono ?_
  rintro e W5 ⟨rfl, hb5⟩
  go_wp2_with fail
  refine (spec_tmAdd.calls 3000 _ _ _ _ HAD.out).mono ?_
  rintro e W6 ⟨rfl, hb6⟩
  go_wp2_with fail
  refine (HI.out _).mono ?_
  rintro e W7 ⟨rfl, hb7⟩
  have HH5 := Lib.hid (((HH.out.below hb5).below hb6).below hb7)
  have HB5 := Lib.hid (below_step (below_step (below_step HB.out hb5) hb6) hb7)
  clear hb5 hb6 hb7 HH HB hcv hex hex2
  have k1 : (vl (Tm.un 35 a b t).kind == 63) = false := rvt_35
  go_wp2_with fail
  refine (spec_tmKind.calls 3000 _ _ _ HS.out.kd).mono ?_
  rintro e W6 ⟨rfl, hd6⟩
  have HH6 := Lib.hid (HH5.out.below hd6.below)
  have HB6 := Lib.hid (below_step HB5.out hd6.below)
  clear hd6 HH5 HB5
  have c0 := HH6.out.cell (j := 1) (c := b) rfl
  have f0 := HH6.out.frozen (j := 1) (by simp)
  go_upto_region 11 with fail
  refine name_world ?_
  intro W9 hW9
  have HH9 : Hid (HeadAt W9 g [35, y, 46]) := by rw [hW9]; exact HH6.out.set 1 _
  have HB9 : Hid (Below w.heap.size w W9) := by rw [hW9]; exact HB6.out.setCell HG.out _
  clear hW9 c0 f0 HH6 HB6
  have hcv : (convert 98 9 (.slice (some ⟨g, 0, none⟩) 3 cap)).run Try.prog W9 = .ok (.string (B [35, y, 46])) W9 := HH9.out.conv cap
  have hz1 : (B [35, y, 46]).size = 3 := B_size _
  have hz2 : (B r.1.text).size = r.1.text.length := B_size _
  have hb1 : (9223372036854775807 < 3 + r.1.text.length) = False := eq_false (by have := HT.out; omega)
  go_wp2_with fail
  go_ret2
  have hfin : B [35, y, 46] ++ B r.1.text = B ([35, y, 46] ++ r.1.text) := B_append _ _
  exact ⟨congrArg (fun x => Ending.returned (Value.tuple #[Value.string x, Value.string (B r.2)])) hfin, HB9.out⟩

def cnL (n : Nat) : List Tm → List UInt8 → List Tm × List UInt8
  | [], s => ([], s)
  | t :: ts, s => ((canS n t s).1 :: (cnL n ts (canS n t s).2).1, (cnL n ts (canS n t s).2).2)
theorem cnL_app (n : Nat) : ∀ (A B : List Tm) (s : List UInt8), cnL n (A ++ B) s = ((cnL n A s).1 ++ (cnL n B (cnL n A s).2).1, (cnL n B (cnL n A s).2).2)
  | [], _, _ => rfl
  | t :: A, B, s => by simp only [List.cons_append, cnL, cnL_app n A B]
theorem cnL_step {n : Nat} {KL : List Tm} {s : List UInt8} {j : Nat} (hj : j < KL.length) : cnL n (KL.take (j + 1)) s = ((cnL n (KL.take j) s).1 ++ [(canS n KL[j] (cnL n (KL.take j) s).2).1], (canS n KL[j] (cnL n (KL.take j) s).2).2) := by
  rw [List.take_succ_eq_append_getElem hj, cnL_app]; rfl
theorem cnL_len (n : Nat) : ∀ (A : List Tm) (s : List UInt8), (cnL n A s).1.length = A.length
  | [], _ => rfl
  | t :: A, s => by simp only [cnL, List.length_cons, cnL_len n A]
theorem cnL_tk (n : Nat) : ∀ (A : List Tm) (s : List UInt8), (∀ u, u ∈ A → Wf nameB u) → (cnL n A s).2.length ≤ s.length + sizes A ∧ ∀ u, u ∈ (cnL n A s).1 → ∃ v, v ∈ A ∧ u.text.length = v.text.length
  | [], s, _ => ⟨by simp [cnL, sizes], fun u hu => by simp [cnL] at hu⟩
  | t :: A, s, h => by
    obtain ⟨q1, q2, q3, q4⟩ := canS_wf freshB_name n t s (h t (by simp))
    obtain ⟨r1, r2⟩ := cnL_tk n A (canS n t s).2 fun u hu => h u (by simp [hu])
    have e : sizes (t :: A) = t.size + sizes A := by simp [sizes]
    refine ⟨by simp only [cnL]; omega, fun u hu => ?_⟩
    simp only [cnL, List.mem_cons] at hu
    rcases hu with rfl | hu
    · exact ⟨t, by simp, q3⟩
    · obtain ⟨v, hv, hl⟩ := r2 u hu
      exact ⟨v, by simp [hv], hl⟩
def withT : Tm → List Tm → Tm
  | .un k a b _, [u] => .un k a b u
  | .bin k a b _ _, [u, v] => .bin k a b u v
  | t, _ => t
theorem canS_kids {t : Tm} (h1 : t.kind ≠ 63) (h2 : t.kind ≠ 35) (n : Nat) (s : List UInt8) : canS (n + 1) t s = (withT t (cnL n t.kids s).1, (cnL n t.kids s).2) := by
  cases t with
  | leaf => rfl
  | un k a b t =>
    simp only [canS, Tm.kids, cnL, withT]
    rw [if_neg (by rintro (h | h); exact h1 h; exact h2 h)]
  | bin => rfl
theorem with_text {t : Tm} {us : List Tm} (hw : Wf nameB t) (hl : t.text.length ≤ 1000) (hs : t.size ≤ 300) (hn : us.length = t.kids.length) (hu : ∀ u, u ∈ us → u.text.length ≤ 1000) : spec_tmWith.f 3000 (B t.text) (us.map fun u => B u.text) = some (B (withT t us).text) := by
  cases t with
  | leaf k a b =>
    obtain rfl := kind_leaf hw
    have hk := kind_text (k := 3000) hw (by omega) (by omega)
    unfold spec_tmWith.f
    rw [hk, Option.bind_some, if_pos (by rfl)]
    have : us = [] := List.length_eq_zero_iff.mp hn
    subst this
    rfl
  | un k a b t =>
    match us, hn with
    | [u], _ => exact with_un hw (by omega) (by have := hu u (by simp); omega) (by omega)
  | bin k a b t1 t2 =>
    match us, hn with
    | [u, v], _ => exact with_bin hw (by omega) (by have := hu u (by simp); omega) (by have := hu v (by simp); omega) (by omega)
def cnR (n : Nat) (KL : List Tm) (s : List UInt8) (j : Nat) : List ByteArray := ((cnL n (KL.take j) s).1.map fun u => B u.text) ++ ((KL.drop j).map fun u => B u.text)
theorem cnR_len (n : Nat) (KL : List Tm) (s : List UInt8) (j : Nat) (hj : j ≤ KL.length) : (cnR n KL s j).length = KL.length := by
  simp only [cnR, List.length_append, List.length_map, cnL_len, List.length_take, List.length_drop]; omega
theorem cnR_at {n : Nat} {KL : List Tm} {s : List UInt8} {j : Nat} (hj : j < KL.length) : (cnR n KL s j)[j]? = some (B KL[j].text) := by
  have hl : ((cnL n (KL.take j) s).1.map fun u => B u.text).length = j := by rw [List.length_map, cnL_len, List.length_take]; omega
  unfold cnR
  rw [List.getElem?_append_right (by omega), hl, Nat.sub_self, List.getElem?_map, List.getElem?_drop, Nat.add_zero, List.getElem?_eq_getElem hj]
  rfl
theorem cnR_set {n : Nat} {KL : List Tm} {s : List UInt8} {j : Nat} (hj : j < KL.length) : (cnR n KL s j).set j (B (canS n KL[j] (cnL n (KL.take j) s).2).1.text) = cnR n KL s (j + 1) := by
  have hl : ((cnL n (KL.take j) s).1.map fun u => B u.text).length = j := by rw [List.length_map, cnL_len, List.length_take]; omega
  have hd : KL.drop j = KL[j] :: KL.drop (j + 1) := List.drop_eq_getElem_cons hj
  unfold cnR
  rw [List.set_append_right _ _ (by omega), hl, Nat.sub_self, hd, cnL_step hj]
  simp only [List.map_cons, List.set_cons_zero, List.map_append, List.map_nil, List.append_assoc, List.cons_append, List.nil_append]
theorem kid_fr {t : Tm} (h1 : t.kind ≠ 63) (h2 : t.kind ≠ 35) {u : Tm} (hu : u ∈ t.kids) {c : UInt8} (hc : u.fr c = true) : t.fr c = true := by
  cases t with
  | leaf => simp [Tm.kids] at hu
  | un k a b v =>
    simp only [Tm.kids, List.mem_singleton] at hu
    subst hu
    by_cases h : k = 33 ∨ k = 61
    · simp only [Tm.fr, if_pos h, orS, hc, Bool.true_or]
    · simp only [Tm.fr, if_neg h, if_neg (show ¬ k = 63 from h1), if_neg (show ¬ k = 35 from h2), hc]
  | bin k a b v z =>
    simp only [Tm.kids, List.mem_cons, List.not_mem_nil, or_false] at hu
    rcases hu with rfl | rfl
    · simp only [Tm.fr, orS, hc, Bool.true_or]
    · simp only [Tm.fr, orS, hc, Bool.or_true]
theorem kid_memn {t u : Tm} (hw : Wf nameB t) (hu : u ∈ t.kids) : Wf nameB u ∧ u.size < t.size ∧ u.text.length ≤ t.text.length := by
  cases t with
  | leaf => simp [Tm.kids] at hu
  | un k a b v =>
    simp only [Tm.kids, List.mem_singleton] at hu
    subst hu
    exact ⟨hw.2, by simp only [Tm.size]; omega, by simp only [Tm.text, List.length_append]; omega⟩
  | bin k a b v z =>
    simp only [Tm.kids, List.mem_cons, List.not_mem_nil, or_false] at hu
    have h1 := v.size_pos
    have h2 := z.size_pos
    rcases hu with rfl | rfl
    · exact ⟨hw.2.2.2.1, by simp only [Tm.size]; omega, by simp only [Tm.text, List.length_append, List.length_cons]; omega⟩
    · exact ⟨hw.2.2.2.2, by simp only [Tm.size]; omega, by simp only [Tm.text, List.length_append, List.length_cons]; omega⟩
set_option maxHeartbeats 1000000 in
set_option maxRecDepth 100000 in
theorem cn_plain (n : Nat) (ih : CnUpto n) (t : Tm) (s : List UInt8) (w : World) (L : List UInt8) (hs : t.size ≤ n + 1) (hn : n ≤ 99) (hw : Wf nameB t) (hl : t.text.length ≤ 1000) (hsl : s.length + t.size ≤ 400) (hL : HiB L t.fr) (hL2 : L.length + t.size ≤ 61) (k1 : t.kind ≠ 63) (k2 : t.kind ≠ 35) :
    Calls Try.prog 89 #[.string (B t.text), .string (B s)] w (CnPost w (canS (n + 1) t s)) := by
  rw [canS_kids k1 k2]
  have hbi := binds_text (k := 3000) hw (by omega) (by omega)
  rw [if_neg (by rintro (h | h); exact k1 h; exact k2 h)] at hbi
  have HBI := Lib.hid hbi
  have HPT := Lib.hid (parts_text (k := 3000) hw (by omega) (by omega))
  clear hbi
  go_enter Try.func89, Try.ntmps89
  go_wp2_with fail
  refine (spec_tmBinds.calls 3000 _ _ _ _ HBI.out).mono ?_
  rintro e w1 ⟨rfl, hd1⟩
  go_wp2_with fail
  refine (spec_tmParts.calls 3000 _ _ _ HPT.out).mono ?_
  rintro e w2 ⟨v, rfl, R, hb2⟩
  obtain ⟨A, c, rfl⟩ := Kd.R_slice R
  have hkl : t.kids.length ≤ 2 := by cases t <;> simp [Tm.kids]
  have hml : (t.kids.map fun u => B u.text).length = t.kids.length := List.length_map _
  have hws := hd1.below.size
  have hb1 := below_alloc (Below.refl w1.heap.size w1) (.cells #[] 9)
  have HO : Kd.R Kd.string 9 w2 w.heap.size (fun _ => True) (.slice (some ⟨w1.heap.size, 0, none⟩) 0 0) [] :=
    Kd.R_of_own ⟨by simp [encs], .inr ⟨w1.heap.size, 0, #[], rfl, hws, (hb2.block _ (by simp)).trans (heap_alloc_new w1 _), Nat.le_refl _, by unfold maxLen; omega, by simp, rfl⟩⟩ (fun _ _ => trivial)
  have HRR := (Kd.R_reads' R).2.2
  have HB2 : Below w.heap.size w w2 := below_step (below_step hd1.below hb1) hb2
  have hz2 := HB2.size
  clear hb1 hb2 hd1 R
  rw [hml] at HRR ⊢
  have h00 : (t.kids.map fun u => B u.text) = cnR n t.kids s 0 := rfl
  rw [h00] at HRR
  have HKN : Hid (∀ u, u ∈ t.kids → Wf nameB u ∧ u.size ≤ n ∧ u.text.length ≤ 1000 ∧ HiB L u.fr ∧ L.length + u.size ≤ 61) := fun u hu => by
    obtain ⟨g1, g2, g3⟩ := kid_memn hw hu
    exact ⟨g1, by omega, by omega, hL.of fun c hc => .inl (kid_fr k1 k2 hu hc), by omega⟩
  have hsk := sizes_kids t
  have HSL : Hid (s.length + sizes t.kids ≤ 400) := by show _ ≤ _; omega
  have HWT : Hid (spec_tmWith.f 3000 (B t.text) (cnR n t.kids s t.kids.length) = some (B (withT t (cnL n t.kids s).1).text)) := by
    have h1 : cnR n t.kids s t.kids.length = (cnL n t.kids s).1.map fun u => B u.text := by unfold cnR; rw [List.take_length, List.drop_length]; simp
    rw [h1]
    refine with_text hw hl (by omega) (cnL_len _ _ _) fun u hu => ?_
    obtain ⟨v, hv, he⟩ := (cnL_tk n t.kids s fun u hu => (kid_memn hw hu).1).2 u hu
    have := (kid_memn hw hv).2.2
    omega
  have HIH : Hid (∀ j (hj : j < t.kids.length) W, Calls Try.prog 89 #[.string (B t.kids[j].text), .string (B (cnL n (t.kids.take j) s).2)] W (CnPost W (canS n t.kids[j] (cnL n (t.kids.take j) s).2))) := fun j hj W => by
    obtain ⟨g1, g2, g3, g4, g5⟩ := HKN.out t.kids[j] (List.getElem_mem hj)
    refine ih t.kids[j] _ W L g2 g1 g3 ?_ g4 g5
    have h1 := (cnL_tk n (t.kids.take j) s fun u hu => (HKN.out u (List.mem_of_mem_take hu)).1).1
    have h2 := sizes_take_succ t.kids j hj
    have h3 := sizes_take_le t.kids (j + 1)
    have h4 := HSL.out
    omega
  have HRS : Hid (cnL n (t.kids.take t.kids.length) s = cnL n t.kids s) := by rw [Hid, List.take_length]
  clear hs hn hw hl hsl hL hL2 k1 k2 hsk h00 hws HKN HSL
  go_wp2_with (at_builtin; refine Kd.R_append_row (w0 := w) Value.string ByteArray.empty w.heap.size (by rfl) (.tmp 61) (.tmp 63) 25 9 (.string ByteArray.empty) 16 (by rfl) Try.underlying25 (by kernel_rfl) (by rfl) (by omega) _ [] (cnR n t.kids s 0) A t.kids.length c (fun _ => True) (by rfl) (by rfl) (fun _ _ => trivial) HO HRR HB2 hz2 (by simp only [List.length_nil]; omega) ?_; intro v1 w3 hR0 hB hG hat; have hR : Kd.R Kd.string 9 w3 w.heap.size (fun _ => True) v1 (cnR n t.kids s 0) := hR0; clear hR0 hG hat; have hln := cnR_len n t.kids s 0 (Nat.zero_le _); obtain ⟨A1, c1, rfl⟩ := Kd.R_slice hR; rw [hln] at hR ⊢; have HR3 := Lib.hid hR; have HB3 := Lib.hid hB; clear hR hB hln HO HRR HB2 hz2)
  go_loopw [1, 67] (fun a i wr => ∃ j : Nat, j ≤ t.kids.length ∧ i = .int .i64 j ∧ a = .string (B (cnL n (t.kids.take j) s).2) ∧ Hid (Kd.R Kd.string 9 wr w.heap.size (fun _ => True) (.slice A1 t.kids.length c1) (cnR n t.kids s j)) ∧ Hid (Below w.heap.size w wr)) (fun a i _ => t.kids.length - (intOf i).toNat)
  case atStart => exact ⟨0, Nat.zero_le _, rfl, rfl, HR3.out, HB3.out⟩
  case round =>
    obtain ⟨j, hj, rfl, rfl, hR, hB⟩ := hrel
    by_cases hlt : j < t.kids.length
    · have hlt4 : (j : Int) < (t.kids.length : Int) := by omega
      have hrl := cnR_len n t.kids s j hj
      obtain ⟨g, cap, hv, hgb, hgl, _⟩ := Kd.R_form hR.out (by omega)
      rw [hrl] at hv
      injection hv with hv1 _ hv2
      subst hv1 hv2
      have hat := cnR_at (n := n) (s := s) hlt
      have hrd : rdOf ByteArray.empty (cnR n t.kids s j) (j : Int) = B t.kids[j].text := by unfold rdOf; simp [List.getD, hat]
      have hcell := Kd.R_celln ByteArray.empty hR.out (j : Int) (by omega) (by omega)
      rw [hrd, Int.toNat_natCast] at hcell
      obtain ⟨c0, f0⟩ := hcell
      have HC := Lib.hid (HIH.out j hlt wr)
      have HST : Hid (cnL n (t.kids.take (j + 1)) s = ((cnL n (t.kids.take j) s).1 ++ [(canS n t.kids[j] (cnL n (t.kids.take j) s).2).1], (canS n t.kids[j] (cnL n (t.kids.take j) s).2).2)) := cnL_step hlt
      have hsetl := cnR_set (n := n) (s := s) hlt
      generalize canS n t.kids[j] (cnL n (t.kids.take j) s).2 = r at HC HST hsetl
      clear hat hrd hrl
      go_wp2_with fail
      refine HC.out.mono ?_
      rintro e w4 ⟨rfl, hb4⟩
      have hR4 := Kd.R_below hR.out hb4
      have hc4 := Kd.R_celln ByteArray.empty hR4 (j : Int) (by omega) (by omega)
      rw [Int.toNat_natCast] at hc4
      obtain ⟨c4, f4⟩ := hc4
      have HR5 : Hid (Kd.R Kd.string 9 (w4.setCell ⟨g, j, none⟩ (.string (B r.1.text))) w.heap.size (fun _ => True) (.slice (some ⟨g, 0, none⟩) t.kids.length c1) (cnR n t.kids s (j + 1))) := by
        have := Kd.R_putn hR4 (j : Int) (B r.1.text)
        rw [Int.toNat_natCast, hsetl] at this
        exact this
      have HB5 : Hid (Below w.heap.size w (w4.setCell ⟨g, j, none⟩ (.string (B r.1.text)))) := (below_step hB.out hb4).setCell hgb _
      clear c0 f0 hR4 hb4 HC hsetl
      go_wp2_with fail
      go_roundw
      case rel => exact ⟨j + 1, by omega, by go_num, by rw [HST.out], HR5.out, HB5.out⟩
      case measure => simp [intOf]; omega
    · have hje : j = t.kids.length := by omega
      have hrl := cnR_len n t.kids s j hj
      obtain ⟨hn2, hc2, hC⟩ := Kd.R_reads' hR.out
      have hw2 := HWT.out
      have HFI : Hid ((cnL n (t.kids.take j) s).2 = (cnL n t.kids s).2) := by rw [Hid, hje, HRS.out]
      rw [← hje] at hw2
      rw [← hn2] at hC
      have hwc := spec_tmWith.calls 3000 (B t.text) A1 c1 (cnR n t.kids s j) _ wr (by rw [hrl]; exact hC) (by omega) hw2
      rw [hrl] at hwc
      clear hC hc2 hn2 hw2 hrl
      go_wp2_with fail
      refine hwc.mono ?_
      rintro e w5 ⟨rfl, hd5⟩
      have HB5 := Lib.hid (below_step hB.out hd5.below)
      clear hd5 hwc
      go_wp2_with fail
      go_ret2
      exact ⟨by first | rfl | (rw [HFI.out]; rfl), HB5.out⟩

theorem cn_any (n : Nat) : n ≤ 100 → CnUpto n := by
  induction n with
  | zero => intro _ t s w L h; have := t.size_pos; omega
  | succ n ih =>
    intro hn t s w L hs hw hl hsl hL hL2
    have ih := ih (by omega)
    by_cases k1 : t.kind = 63
    · cases t with
      | leaf k a b => obtain rfl := kind_leaf hw; exact absurd k1 (by simp only [Tm.kind]; decide)
      | un k a b t =>
        simp only [Tm.kind] at k1
        subst k1
        exact cn_63 n ih a b t s w L hs (by omega) hw hl hsl hL hL2
      | bin k a b t u => exact absurd k1 (by simp only [Tm.kind]; rcases kind_bin hw with rfl | rfl <;> decide)
    by_cases k2 : t.kind = 35
    · cases t with
      | leaf k a b => obtain rfl := kind_leaf hw; exact absurd k2 (by simp only [Tm.kind]; decide)
      | un k a b t =>
        simp only [Tm.kind] at k2
        subst k2
        exact cn_35 n ih a b t s w L hs (by omega) hw hl hsl hL hL2
      | bin k a b t u => exact absurd k2 (by simp only [Tm.kind]; rcases kind_bin hw with rfl | rfl <;> decide)
    · exact cn_plain n ih t s w L hs (by omega) hw hl hsl hL hL2 k1 k2

end Go.Proofs.Ytfcadppidgkoaaa.PFnExactRenameFree
