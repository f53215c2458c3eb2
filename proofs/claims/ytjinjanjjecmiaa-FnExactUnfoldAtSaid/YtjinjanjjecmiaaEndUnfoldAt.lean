/- The law FnExactUnfoldAt, walked: the program's answer is the reference's. -/
import Derived.Test.YtjinjanjjecmiaaPutReplaceAt
import Derived.Test.YtjinjanjjecmiaaIfReplaceAt
import Derived.Test.YtjinjanjjecmiaaToldT
import Derived.Test.YtjinjanjjecmiaaWithT
namespace Go.Proofs.Ytjinjanjjecmiaa.PFnExactUnfoldAt
open Go.RowKit Go.Proofs.YtjinjanjjecmiaaW.PrintWords Go.Proofs.YtjinjanjjecmiaaW.PrintLast Go.Proofs.YtjinjanjjecmiaaW.PrintMore Go.Proofs.Ytjinjanjjecmiaa.Pterm Go.Proofs.Ytjinjanjjecmiaa.PReplaceAt
set_option linter.unusedVariables false
set_option linter.unusedSimpArgs false

theorem sub_path (path : List UInt8) : ∀ t : Tm, (t.sub path).isSome = true → path.length < t.size := by
  induction path with
  | nil => intro t _; cases t <;> simp only [Tm.size, List.length_nil] <;> omega
  | cons c l ih =>
    intro t h
    obtain ⟨j, hj, _, hj2, hs⟩ := sub_step h
    have h1 := ih _ hs
    have h2 := (kid_txl t j hj).2
    simp only [List.length_cons]
    omega
/-- What stands in place of a copying sign. -/
def unf (u : Tm) : Tm := .bin 38 0 0 (u.kids.headD u) u
/-- What both say. -/
def subV (l path : List UInt8) (o : Option Tm) : ByteArray × Bool := match o with
  | none => (B [], false)
  | some u => if u.kind = 42 then tolT (putT (unf u) path (parsed l).1) else (B [], false)
def val (l path : List UInt8) : ByteArray × Bool := if readOk l = true then subV l path ((parsed l).1.sub path) else (B [], false)
theorem star {P : UInt8 → Bool} {u : Tm} (h : Wf P u) (hk : u.kind = 42) : ∃ a b v, u = .un 42 a b v := by
  cases u with
  | leaf k a b => simp only [Tm.kind] at hk; subst hk; exact absurd h (by simp [Wf])
  | un k a b v => simp only [Tm.kind] at hk; subst hk; exact ⟨a, b, v, rfl⟩
  | bin k a b v v2 => simp only [Tm.kind] at hk; subst hk; rcases h.1 with h | h <;> simp at h
theorem unf_wf {P : UInt8 → Bool} {a b : UInt8} {v : Tm} (h : Wf P (.un 42 a b v)) : Wf P (unf (.un 42 a b v)) := ⟨.inr rfl, rfl, rfl, h.2, h⟩
theorem unf_text (a b : UInt8) (v : Tm) : (unf (.un 42 a b v)).text = [40] ++ v.text ++ [38] ++ (Tm.un 42 a b v).text ++ [41] := by
  simp [unf, Tm.text, Tm.kids]
theorem lies_unf {w : World} {N x y : Nat} {a b : UInt8} {v : Tm} {cap : Nat} (hN : N ≤ w.heap.size) (hy : Lies w N (.un 42 a b v) y) (hx : Lies w N v x) :
    Lies ((w.alloc (.cells #[.pointer (some ⟨x, 0, none⟩), .pointer (some ⟨y, 0, none⟩)] 41)).alloc (.cells #[.int .u8 38, .int .u8 0, .int .u8 0, .slice (some ⟨w.heap.size, 0, none⟩) 2 cap] 49)) N (unf (.un 42 a b v)) (w.heap.size + 1) := by
  obtain ⟨w1, hw1⟩ : ∃ w1, w1 = w.alloc (.cells #[.pointer (some ⟨x, 0, none⟩), .pointer (some ⟨y, 0, none⟩)] 41) := ⟨_, rfl⟩
  have h1 : w1.heap[w.heap.size]? = some (.cells #[.pointer (some ⟨x, 0, none⟩), .pointer (some ⟨y, 0, none⟩)] 41 (0, 0)) := by rw [hw1]; exact heap_alloc_new w _
  have hs : w1.heap.size = w.heap.size + 1 := by rw [hw1]; simp
  have hb : Below w.heap.size w w1 := by rw [hw1]; exact (Below.refl _ _).alloc (Nat.le_refl _) _
  have hy1 := hy.below hb
  have hx1 := hx.below hb
  rw [← hw1]
  have hb2 : ∀ o, Below w1.heap.size w1 (w1.alloc o) := fun o => (Below.refl _ _).alloc (Nat.le_refl _) _
  refine ⟨by omega, w.heap.size, cap, x, y, hN, ⟨49, ?_⟩, ⟨_, _, ((hb2 _).block _ (by omega)).trans h1, rfl⟩, ⟨_, _, ((hb2 _).block _ (by omega)).trans h1, rfl⟩, hx1.below (hb2 _), hy1.below (hb2 _)⟩
  · rw [← hs]; exact heap_alloc_new w1 _

set_option maxHeartbeats 2000000 in
theorem UnfoldAt_calls (l path : List UInt8) (w : World) (hl : l.length ≤ 140737488351232) (hp : path.length ≤ 140737488351232) :
    Calls Try.prog 41 #[.string (B l), .string (B path)] w fun e w' => e = .returned (.tuple #[.string (val l path).1, .bool (val l path).2]) ∧ Below w.heap.size w w' := by
  go_enter Try.func41, Try.ntmps41
  go_wp2_with fail
  refine (read_calls l w hl).mono ?_
  rintro e w1 ⟨hb, p, rfl, hpp⟩
  rcases hok : readOk l with _ | _
  · have hv : Hid (val l path = (B [], false)) := by simp [Hid, val, hok]
    clear hok hpp
    go_wp2_with fail
    go_ret2
    exact ⟨by rw [hv.out]; rfl, hb⟩
  have hv0 : Hid (val l path = subV l path ((parsed l).1.sub path)) := by simp [Hid, val, hok]
  obtain ⟨b, rfl, hli⟩ := hpp hok
  have HG := Lib.hid (read_good hok)
  have HL := Lib.hid hli
  have HB := Lib.hid hb
  clear hok hpp hb hli
  go_wp2_with fail
  refine (at_calls _ path _ _ _ hp HL.out).mono ?_
  rintro e w' ⟨rfl, hor⟩
  rcases hs : (parsed l).1.sub path with _ | u
  · rw [hs] at hor
    have hv : Hid (val l path = (B [], false)) := by rw [Hid, hv0.out, hs]; rfl
    clear hs hv0
    simp only [] at hor
    subst hor
    go_wp2_with fail
    go_ret2
    exact ⟨by rw [hv.out]; rfl, HB.out⟩
  · rw [hs] at hor
    have HSS : Hid (((parsed l).1.sub path).isSome = true) := by rw [Hid, hs]; rfl
    obtain ⟨y, rfl, hy⟩ := hor
    have hu := sub_wf path HG.out.2.2.1 hs
    obtain ⟨o, cap, c0, _, _, c3, hkd⟩ := hy.at
    by_cases hk : u.kind = 42
    · obtain ⟨k1, k2, v, rfl⟩ := star hu.1 hk
      have hv : Hid (val l path = tolT (putT (unf (.un 42 k1 k2 v)) path (parsed l).1)) := by rw [Hid, hv0.out, hs]; rfl
      obtain ⟨r, x, rfl, c4, hx⟩ := hkd 0 (by simp [Tm.kids])
      have HPL : Hid (path.length ≤ 100) := by
        have h1 := sub_path path _ HSS.out
        have h2 := HG.out.2.2.2
        simp only [Hid]; omega
      have HUW := Lib.hid (unf_wf hu.1)
      have HW : Hid (Wf isLet (putT (unf (.un 42 k1 k2 v)) path (parsed l).1)) := put_wf HUW.out path HG.out.2.2.1
      have HTL : Hid ((putT (unf (.un 42 k1 k2 v)) path (parsed l).1).text.length ≤ 1000000) := by
        have h1 := HG.out.1
        have h2 := congrArg List.length HG.out.2.1
        have h3 := hu.2.1
        have h4 := congrArg List.length (unf_text k1 k2 v)
        have h6 : v.text.length ≤ (Tm.un 42 k1 k2 v).text.length := by simp [Tm.text]
        have h5 := put_len (unf (.un 42 k1 k2 v)) path (parsed l).1
        simp only [List.length_append, List.length_cons, List.length_nil] at h4
        simp only [Hid]; omega
      have HUN : Hid (∀ cap, Lies ((w1.alloc (.cells #[.pointer (some ⟨x, 0, none⟩), .pointer (some ⟨y, 0, none⟩)] 41)).alloc (.cells #[.int .u8 38, .int .u8 0, .int .u8 0, .slice (some ⟨w1.heap.size, 0, none⟩) 2 cap] 49)) w.heap.size (unf (.un 42 k1 k2 v)) (w1.heap.size + 1)) := fun cap => lies_unf HB.out.size hy hx
      have d0 : w1.cell? ⟨y, 0, none⟩ = some (.int .u8 42) := c0
      have d3 : w1.cell? ⟨y, 3, none⟩ = some (.slice (some ⟨r, 0, none⟩) 1 cap) := c3
      clear hs hv0 hy hx hu hkd hk c0 c3
      go_wp2_with fail
      have HB2 : ∀ o1 o2, Below w1.heap.size w1 ((w1.alloc o1).alloc o2) := fun o1 o2 => ((Below.refl _ _).alloc (Nat.le_refl _) _).alloc (by simp) _
      refine (with_any 100 path _ _ _ _ w.heap.size _ _ HPL.out (by omega) HSS.out ?_ ?_ (HUN.out _) (Below.refl _ _)).mono ?_
      · exact Nat.le_trans HB.out.size (HB2 _ _).size
      · exact HL.out.below (HB2 _ _)
      rintro e w3 ⟨z, rfl, hst, hb4⟩
      have HZ := Lib.hid (hst w3 fun _ _ _ => rfl)
      have HB4 := Lib.hid (below_then HB.out HB.out.size (below_then (HB2 _ _) (HB2 _ _).size hb4))
      clear hst hb4 HB2 HUN d0 d3 c4
      go_wp2_with fail
      refine (told_calls _ _ _ _ HW.out HTL.out HZ.out).mono ?_
      rintro e w4 ⟨rfl, hb5⟩
      have HB5 := Lib.hid (below_then HB4.out HB4.out.size hb5)
      clear hb5
      go_wp2_with fail
      go_ret2
      exact ⟨by rw [hv.out]; rfl, HB5.out⟩
    · have hv : Hid (val l path = (B [], false)) := by rw [Hid, hv0.out, hs]; simp [subV, hk]
      have e42 : ¬ vl u.kind = 42 := by unfold vl; intro h; exact hk (UInt8.toNat_inj.mp (show u.kind.toNat = 42 by omega))
      clear hs hv0 hy hu hkd hk c3
      go_wp2_with fail
      go_ret2
      exact ⟨by rw [hv.out]; rfl, HB.out⟩

theorem unf_bytes (a b : UInt8) (v : Tm) : (((((⟨#[40]⟩ : ByteArray) ++ (B (Tm.un 42 a b v).text).extract 1 (v.text.length + 1)) ++ (⟨#[38]⟩ : ByteArray)) ++ B (Tm.un 42 a b v).text) ++ (⟨#[41]⟩ : ByteArray)) = B (unf (.un 42 a b v)).text := by
  have hex : (B (Tm.un 42 a b v).text).extract 1 (v.text.length + 1) = B v.text := by rw [B_extract]; simp [Tm.text]
  rw [hex, unf_text, show (⟨#[40]⟩ : ByteArray) = B [40] from rfl, show (⟨#[38]⟩ : ByteArray) = B [38] from rfl, show (⟨#[41]⟩ : ByteArray) = B [41] from rfl]
  simp only [B_append]

set_option maxHeartbeats 2000000 in
theorem spec_calls (l path : List UInt8) (w : World) (hp : path.length ≤ 1048576) :
    Calls Try.prog 40 #[.string (B l), .string (B path)] w fun e w' => e = .returned (.tuple #[.string (val l path).1, .bool (val l path).2]) ∧ Below w.heap.size w w' := by
  have hg := Lib.hid (good_f l 2000000 (by omega))
  rcases hok : readOk l with _ | _
  · have hv : Hid (val l path = (B [], false)) := by simp [Hid, val, hok]
    rw [hok] at hg
    clear hok
    go_enter Try.func40, Try.ntmps40
    go_wp2_with fail
    refine (spec_tmGood.calls _ (B l) _ _ hg.out).mono ?_
    rintro e w1 ⟨rfl, hb⟩
    go_wp2_with fail
    go_ret2
    exact ⟨by rw [hv.out]; rfl, hb⟩
  have hv0 : Hid (val l path = subV l path ((parsed l).1.sub path)) := by simp [Hid, val, hok]
  obtain ⟨h1, h2, h3, h4⟩ := read_good hok
  have e := at_text path (by omega) path (parsed l).1 0 2000000 (At.start path) (Wf.names (fun c => let_name) h3) (by rw [← h2]; omega) (by omega)
  rw [← h2] at e
  have HE : Hid (spec_tmAt.f 2000000 (B l) (B path) = some ((subRes ((parsed l).1.sub path)).1, (subRes ((parsed l).1.sub path)).2)) := e
  rw [hok] at hg
  have HG := Lib.hid (read_good hok)
  clear hok h1 h2 h3 h4 e
  go_enter Try.func40, Try.ntmps40
  go_wp2_with fail
  refine (spec_tmGood.calls _ (B l) _ _ hg.out).mono ?_
  rintro e w1 ⟨rfl, hb⟩
  have HB := Lib.hid hb
  clear hb
  go_wp2_with fail
  refine (spec_tmAt.calls _ (B l) (B path) _ _ _ HE.out).mono ?_
  rintro e w2 ⟨rfl, hb⟩
  have HB2 := Lib.hid (below_then HB.out HB.out.size hb)
  clear hb
  rcases hs : (parsed l).1.sub path with _ | u
  · have hv : Hid (val l path = (B [], false)) := by rw [Hid, hv0.out, hs]; rfl
    clear hs hv0
    simp only [subRes]
    go_wp2_with fail
    go_ret2
    exact ⟨by rw [hv.out]; rfl, HB2.out⟩
  have hss : ((parsed l).1.sub path).isSome = true := by rw [hs]; rfl
  have hu := sub_wf path HG.out.2.2.1 hs
  have hul : u.text.length ≤ 300 := by
    have h1 := HG.out.1
    have h2 := congrArg List.length HG.out.2.1
    have h3 := hu.2.1
    omega
  have hus : u.size ≤ 60 := by
    have h1 := HG.out.2.2.2
    have h3 := hu.2.2
    omega
  have HK := Lib.hid (kind_text (k := 2000000) (Wf.names (fun c => let_name) hu.1) (by omega) (by omega))
  by_cases hk : u.kind = 42
  · obtain ⟨k1, k2, v, rfl⟩ := star hu.1 hk
    have hv : Hid (val l path = tolT (putT (unf (.un 42 k1 k2 v)) path (parsed l).1)) := by rw [Hid, hv0.out, hs]; rfl
    have h6 : v.text.length ≤ (Tm.un 42 k1 k2 v).text.length := by simp [Tm.text]
    have hut := congrArg List.length (unf_text k1 k2 v)
    simp only [List.length_append, List.length_cons, List.length_nil] at hut
    have hq := put_text (unf (.un 42 k1 k2 v)) path (parsed l).1 2000000 hss (Wf.names (fun c => let_name) HG.out.2.2.1) (by have h1 := HG.out.1; have h2 := congrArg List.length HG.out.2.1; omega) (by have := sub_path path _ hss; have := HG.out.2.2.2; omega) (by have := sub_path path _ hss; have := HG.out.2.2.2; omega)
    rw [← HG.out.2.1] at hq
    have HQ := Lib.hid hq
    have HI := Lib.hid (if_f (putT (unf (.un 42 k1 k2 v)) path (parsed l).1).text 2000000 (by omega))
    have HI2 : Hid (spec_tmIf.f 2000000 (B (putT (unf (.un 42 k1 k2 v)) path (parsed l).1).text) = some ((tolT (putT (unf (.un 42 k1 k2 v)) path (parsed l).1)).1, (tolT (putT (unf (.un 42 k1 k2 v)) path (parsed l).1)).2)) := HI.out
    have HU := Lib.hid (unf_bytes k1 k2 v)
    have HT : Hid ((Tm.un 42 k1 k2 v).text.length = v.text.length + 1) := by simp [Hid, Tm.text]
    have z1 : (B (Tm.un 42 k1 k2 v).text).size = v.text.length + 1 := (B_size _).trans HT.out
    have hvl : v.text.length ≤ 300 := by omega
    have HKK : Hid (spec_tmKind.f 2000000 (B (Tm.un 42 k1 k2 v).text) = some 42) := HK.out
    clear hs hv0 hss hu hus hul hk h6 hut hq HI HK
    simp only [subRes]
    go_wp2_with fail
    refine (spec_tmKind.calls _ _ _ _ HKK.out).mono ?_
    rintro e w3 ⟨rfl, hb⟩
    have HB3 := Lib.hid (below_then HB2.out HB2.out.size hb.below)
    clear hb
    go_wp2_with fail
    rw [HU.out]
    refine (spec_tmPut.calls _ _ _ _ _ _ HQ.out).mono ?_
    rintro e w4 ⟨rfl, hb⟩
    have HB4 := Lib.hid (below_then HB3.out HB3.out.size hb)
    clear hb
    go_wp2_with fail
    refine (spec_tmIf.calls _ _ _ _ _ HI2.out).mono ?_
    rintro e w5 ⟨rfl, hb⟩
    have HB5 := Lib.hid (below_then HB4.out HB4.out.size hb)
    clear hb
    go_wp2_with fail
    go_ret2
    exact ⟨by rw [hv.out]; rfl, HB5.out⟩
  · have hv : Hid (val l path = (B [], false)) := by rw [Hid, hv0.out, hs]; simp [subV, hk]
    have e42 : ¬ vl u.kind = 42 := by unfold vl; intro h; exact hk (UInt8.toNat_inj.mp (show u.kind.toNat = 42 by omega))
    clear hs hv0 hss hu hul hus hk
    simp only [subRes]
    go_wp2_with fail
    refine (spec_tmKind.calls _ _ _ _ HK.out).mono ?_
    rintro e w3 ⟨rfl, hb⟩
    have HB3 := Lib.hid (below_then HB2.out HB2.out.size hb.below)
    clear hb
    go_wp2_with fail
    go_ret2
    exact ⟨by rw [hv.out]; rfl, HB3.out⟩

set_option maxHeartbeats 1000000 in
theorem law_walk (s t : ByteArray) (w : World) (hs : s.size ≤ 140737488351232) (ht : t.size ≤ 140737488351232) :
    Calls Try.prog 14 #[.string s, .string t] w fun e w' => e = .returned (.bool true) ∧ Below w.heap.size w w' := by
  obtain ⟨a, rfl⟩ := B_of s
  obtain ⟨x, rfl⟩ := B_of t
  have hz : (B a).size = a.length := B_size a
  have hz2 : (B x).size = x.length := B_size x
  rw [hz] at hs
  rw [hz2] at ht
  by_cases hbig : a.length > 1048576
  · go_enter Try.func14, Try.ntmps14
    go_wp2_with fail
    go_ret
    exact ⟨rfl, Below.refl _ _⟩
  by_cases hbig2 : x.length > 1048576
  · go_enter Try.func14, Try.ntmps14
    go_wp2_with fail
    go_ret
    exact ⟨rfl, Below.refl _ _⟩
  · go_enter Try.func14, Try.ntmps14
    go_wp2_with fail
    refine (spec_calls a x _ (by omega)).mono ?_
    rintro e w1 ⟨rfl, hb1⟩
    go_wp2_with fail
    refine (UnfoldAt_calls a x _ hs ht).mono ?_
    rintro e w2 ⟨rfl, hb⟩
    replace hb := below_then hb1 hb1.size hb
    clear hb1
    go_wp2_with fail
    go_ret
    exact ⟨rfl, hb⟩

end Go.Proofs.Ytjinjanjjecmiaa.PFnExactUnfoldAt
