/- The law FnExactDepthOf, walked: the program's answer is the reference's. -/
import Derived.Test.YteepgblpoddcfaaGoodDepthOf
import Derived.Test.YteepgblpoddcfaaReadb
import Derived.Test.YteepgblpoddcfaaDepth
namespace Go.Proofs.Yteepgblpoddcfaa.PFnExactDepthOf
open Go.RowKit Go.Proofs.YteepgblpoddcfaaW.PrintWords Go.Proofs.YteepgblpoddcfaaW.PrintLast Go.Proofs.YteepgblpoddcfaaW.PrintMore Go.Proofs.Yteepgblpoddcfaa.Pterm Go.Proofs.Yteepgblpoddcfaa.PDepthOf
set_option linter.unusedVariables false
set_option linter.unusedSimpArgs false

/-- What both say. -/
def val (l : List UInt8) : Int := if readOk l = true then (parsed l).1.depth else 0

set_option maxHeartbeats 1000000 in
theorem DepthOf_calls (l : List UInt8) (w : World) (hl : l.length ≤ 140737488351232) :
    Calls Try.prog 36 #[.string (B l)] w fun e w' => e = .returned (.tuple #[.int .i64 (val l), .bool (readOk l)]) ∧ Below w.heap.size w w' := by
  go_enter Try.func36, Try.ntmps36
  go_wp2_with fail
  refine (read_calls l w hl).mono ?_
  rintro e w1 ⟨hb, p, rfl, hp⟩
  rcases hok : readOk l with _ | _
  · have hv : Hid (val l = 0) := by simp [Hid, val, hok]
    have HO := Lib.hid hok
    clear hok hp
    go_wp2_with fail
    go_ret2
    exact ⟨by rw [hv.out, HO.out]; rfl, hb⟩
  · have hv : Hid (val l = (parsed l).1.depth) := by simp [Hid, val, hok]
    obtain ⟨b, rfl, hli⟩ := hp hok
    have hsz := (read_good hok).2.2.2
    have HO := Lib.hid hok
    clear hok hp
    go_wp2_with fail
    refine (depth_any 61 _ _ _ _ (by omega) (by omega) hli).mono ?_
    rintro e w' ⟨rfl, rfl⟩
    clear hli
    go_wp2_with fail
    go_ret2
    exact ⟨by rw [hv.out, HO.out]; rfl, hb⟩

theorem depth_step (k : Nat) (s : ByteArray) : spec_tmDepth.f (k + 1) s = (spec_tmParts.f k s).bind fun t => spec_tmDepth.l0 k 0 t (t.length : Int) 0 := by simp only [spec_tmDepth.f]
theorem depth_round {k : Nat} {x : Nat} {xs : List ByteArray} {i : Nat} {n : Int} (hn : n = xs.length) (hi : i < xs.length) (hl : xs.length ≤ 1000000) {y : Nat} (h : spec_tmDepth.f k (xs.getD i ByteArray.empty) = some (y : Int)) : spec_tmDepth.l0 (k + 1) x xs n i = spec_tmDepth.l0 k ((max x y : Nat) : Int) xs n ((i + 1 : Nat) : Int) := by
  subst hn
  rw [spec_tmDepth.l0, if_pos (by omega), if_pos (by omega), if_pos (by omega), show rdOf ByteArray.empty xs (i : Int) = xs.getD i ByteArray.empty from rfl, h, Option.bind_some, wrap_id (x := (i : Int) + 1) (by omega) (by omega)]
  have : spec_l1Most.f (x : Int) (y : Int) = some ((max x y : Nat) : Int) := by
    unfold spec_l1Most.f
    split <;> (congr 1; omega)
  rw [this]; rfl
theorem depth_end {k : Nat} {x : Int} {xs : List ByteArray} {i : Nat} {n : Int} (hn : n = xs.length) (hi : i = xs.length) : spec_tmDepth.l0 (k + 1) x xs n i = some (wrap64 (x + 1)) := by
  subst hn; subst hi
  rw [spec_tmDepth.l0, if_neg (by omega)]

/-- The reference's depth. -/
theorem depth_text (t : Tm) : ∀ k, Wf nameB t → t.text.length ≤ 1000000 → 4 * t.size + 4 ≤ k → spec_tmDepth.f k (B t.text) = some (t.depth : Int) := by
  induction t with
  | leaf sk a b =>
    intro k hw hl hk
    simp only [Tm.size] at hk
    obtain ⟨k, rfl⟩ : ∃ m, k = m + 2 := ⟨k - 2, by omega⟩
    rw [depth_step, parts_text hw hl (by simp only [Tm.size]; omega), Option.bind_some]
    exact (depth_end (k := k) (x := 0) (xs := []) (i := 0) rfl rfl).trans (by rw [wrap_id (by omega) (by omega)]; rfl)
  | un sk a b t ih =>
    intro k hw hl hk
    simp only [Tm.size] at hk
    have hl2 : t.text.length ≤ 1000000 := by simp only [Tm.text, List.length_append] at hl; omega
    have hsz := size_le_text t
    have hd := depth_le t
    obtain ⟨k, rfl⟩ : ∃ m, k = m + 4 := ⟨k - 4, by omega⟩
    rw [depth_step, parts_text hw hl (by simp only [Tm.size]; omega), Option.bind_some]
    have r1 := depth_round (k := k + 2) (x := 0) (xs := [B t.text]) (i := 0) rfl (by simp) (by simp) (ih (k + 2) hw.2 hl2 (by omega))
    refine r1.trans ((depth_end (i := 1) rfl rfl).trans ?_)
    rw [wrap_id (by omega) (by omega)]; simp [Tm.depth]
  | bin sk a b t u ih1 ih2 =>
    intro k hw hl hk
    simp only [Tm.size] at hk
    have hl' := hl
    simp only [Tm.text, List.length_cons, List.length_append] at hl'
    have hsz := size_le_text t
    have hsz2 := size_le_text u
    have hd := depth_le t
    have hd2 := depth_le u
    obtain ⟨k, rfl⟩ : ∃ m, k = m + 4 := ⟨k - 4, by omega⟩
    rw [depth_step, parts_text hw hl (by simp only [Tm.size]; omega), Option.bind_some]
    have r1 := depth_round (k := k + 2) (x := 0) (xs := [B t.text, B u.text]) (i := 0) rfl (by simp) (by simp) (ih1 (k + 2) hw.2.2.2.1 (by omega) (by omega))
    have r2 := depth_round (k := k + 1) (x := max 0 t.depth) (xs := [B t.text, B u.text]) (i := 1) rfl (by simp) (by simp) (ih2 (k + 1) hw.2.2.2.2 (by omega) (by omega))
    refine r1.trans (r2.trans ((depth_end (i := 2) rfl rfl).trans ?_))
    rw [wrap_id (by omega) (by omega)]; simp [Tm.depth]

theorem spec_val (l : List UInt8) : spec_DepthOf.f 3000 (B l) = some (val l, readOk l) := by
  unfold spec_DepthOf.f val
  rw [good_f l 3000 (by omega), Option.bind_some]
  rcases hok : readOk l with _ | _
  · rfl
  · obtain ⟨h1, h2, h3, h4⟩ := read_good hok
    have e := depth_text (parsed l).1 3000 (Wf.names (fun c => let_name) h3) (by rw [← h2]; omega) (by omega)
    rw [← h2] at e
    rw [if_pos rfl, e]; rfl

set_option maxHeartbeats 1000000 in
theorem law_walk (s : ByteArray) (w : World) (hs : s.size ≤ 140737488351232) :
    Calls Try.prog 14 #[.string s] w fun e w' => e = .returned (.bool true) ∧ Below w.heap.size w w' := by
  obtain ⟨l, rfl⟩ := B_of s
  have hz : (B l).size = l.length := B_size l
  rw [hz] at hs
  by_cases hbig : l.length > 1048576
  · go_enter Try.func14, Try.ntmps14
    go_wp2_with fail
    go_ret
    exact ⟨rfl, Below.refl _ _⟩
  · have HF := Lib.hid (spec_val l)
    go_enter Try.func14, Try.ntmps14
    go_wp2_with fail
    refine (spec_DepthOf.calls 3000 (B l) _ _ _ HF.out).mono ?_
    rintro e w1 ⟨rfl, hb1⟩
    go_wp2_with fail
    refine (DepthOf_calls l _ hs).mono ?_
    rintro e w2 ⟨rfl, hb⟩
    replace hb := below_then hb1 hb1.size hb
    clear hb1
    go_wp2_with fail
    go_ret
    exact ⟨rfl, hb⟩

end Go.Proofs.Yteepgblpoddcfaa.PFnExactDepthOf
