/- Several texts in one.
   The walks of the reference's sorts: root, join, carry. (Written by gen_rsort.py, partly out of XSortW.)
   The walk of the reference's fresh: a sort more. (Written by gen_rfresh.py.)
   The walks of the reference's level and soSortable.
   The reference's scope: which sort a name has, in memory.
   The walk of the reference's walk: what a process asks of sorts, at a term's text. (Written by gen_rwalk.py.)
   The walk of the reference's soOf: the sorts of a term's text. (Written by gen_rsof.py.) -/
import Derived.Test.YtjgfgjhaghbehaaGreatSortA
import Derived.Deep.LoopGhost
import Derived.Test.YtjgfgjhaghbehaaGreatWMore
import Derived.Test.YtjgfgjhaghbehaaGreatWTab
import Derived.Test.YtjgfgjhaghbehaaGreatWFour
import Derived.Test.YtjgfgjhaghbehaaGreatPfindx
import Derived.Test.YtjgfgjhaghbehaaGreatPwithx
import Derived.Test.YtjgfgjhaghbehaaGreatWKept
import Derived.Test.YtjgfgjhaghbehaaGreatWFootNe
import Derived.Test.YtjgfgjhaghbehaaGreatWAt
import Derived.Test.YtjgfgjhaghbehaaGreatSortB
import Derived.Test.YtjgfgjhaghbehaaGreatRefssoPlace
import Derived.Outline
import Derived.Test.YtjgfgjhaghbehaaGreatFreeAsoPlace
namespace Go.Proofs.YtjgfgjhaghbehaaGreat.Rf
open Go.RowKit Go.Proofs.YtjgfgjhaghbehaaGreatW.PrintWords Go.Proofs.YtjgfgjhaghbehaaGreatW.PrintMore
set_option linter.unusedVariables false
set_option linter.unusedSimpArgs false

set_option maxHeartbeats 1000000 in
theorem root_calls {w : World} {N g : Nat} {v1 v2 : Value} {ex : List Value} {s : Srt} (h : SrAt w N g v1 v2 ex s) (ho : s.Ok) {x : Nat} (hx : x < s.n) (hn : s.n ≤ 1000000) :
    Calls Tryz.prog 33 #[.pointer (some ⟨g, 0, none⟩), .int .i64 (x : Nat)] w fun e w' => e = .returned (.int .i64 (s.rt x : Nat)) ∧ w' = w := by
  obtain ⟨r, cap, rfl, hr, hrl, hcap⟩ := h.r1.form (by omega)
  have c0 := h.c0
  have HC : Hid (∀ y, y < s.n → w.cell? ⟨r, y, none⟩ = some (.int .i64 (s.par y : Nat))) := fun y hy => h.r1.cell hy
  have HO := Lib.hid ho
  clear h ho hr hrl
  go_enter Tryz.func33, Tryz.ntmps33
  go_wp2_with fail
  go_loop [1] (fun c => ∃ y : Nat, y < s.n ∧ c = .int .i64 y ∧ Hid (s.rt y = s.rt x)) (fun c => s.rk (intOf c).toNat)
  case atStart => exact ⟨x, hx, rfl, rfl⟩
  case round =>
    obtain ⟨y, hy, rfl, he⟩ := hrel
    have hc := HC.out y hy
    by_cases hp : s.par y = y
    · have hne := eq_int hp
      have HE : Hid (s.rt x = y) := by rw [Hid, ← he.out]; exact HO.out.end_ y hy hp
      rw [hp] at hc
      clear hne hp
      go_wp2_with fail
      go_ret
      exact ⟨by rw [HE.out]; rfl, rfl⟩
    · have hne := ne_int hp
      have HL : Hid (s.rk (s.par y) < s.rk y) := HO.out.fall y hy hp
      have HE : Hid (s.rt (s.par y) = s.rt x) := by rw [Hid, ← he.out]; exact HO.out.par_rt y hy
      have HP : Hid (s.par y < s.n) := HO.out.plt y hy
      clear hp
      go_wp2_with fail
      go_round
      case rel => exact ⟨s.par y, HP.out, rfl, HE⟩
      case measure => simpa [intOf] using HL.out


set_option maxHeartbeats 4000000 in
theorem join_calls {w : World} {N g : Nat} {v1 v2 : Value} {ex : List Value} {s : Srt} (h : SrAt w N g v1 v2 ex s) (ho : s.Ok) {x y : Nat} (hx : x < s.n) (hy : y < s.n) (hn : s.n ≤ 1000000) :
    Calls Tryz.prog 92 #[.pointer (some ⟨g, 0, none⟩), .int .i64 (x : Nat), .int .i64 (y : Nat)] w (JoinPost w N g v1 v2 ex (s.join x y)) := by
  obtain ⟨r1, cap1, rfl, _, _, hcap1⟩ := h.r1.form (by omega)
  obtain ⟨r2, cap2, rfl, _, _, hcap2⟩ := h.r2.form (by omega)
  have HS := Lib.hid h
  have HO := Lib.hid ho
  obtain ⟨T, hT⟩ : ∃ T, T = s.join x y := ⟨_, rfl⟩
  have HT : Hid (s.join x y = T) := hT.symm
  have HN : Hid (s.n = s.n) := rfl
  obtain ⟨n, hnn⟩ : ∃ n, n = s.n := ⟨_, rfl⟩
  have HNN := Lib.hid hnn
  rw [← hT, ← hnn]
  rw [← hnn] at hcap1 hcap2 hn hx hy
  clear h ho hT hnn
  go_enter Tryz.func92, Tryz.ntmps92
  go_wp2_with fail
  go_loopg [1, 2] s.roots (fun q a b wr => ∃ (s' : Srt) (x y : Nat), a = .int .i64 x ∧ b = .int .i64 y ∧ x < n ∧ y < n ∧ Hid (s'.roots = q ∧ s'.n = n ∧ s'.Ok ∧ s'.join x y = T) ∧ SrAt wr N g (.slice (some ⟨r1, 0, none⟩) n cap1) (.slice (some ⟨r2, 0, none⟩) n cap2) ex s' ∧ Fr w g (.slice (some ⟨r1, 0, none⟩) n cap1) (.slice (some ⟨r2, 0, none⟩) n cap2) wr (.slice (some ⟨r1, 0, none⟩) n cap1) (.slice (some ⟨r2, 0, none⟩) n cap2))
  case atStart => exact ⟨s, x, y, rfl, rfl, hx, hy, ⟨rfl, HNN.out.symm, HO.out, HT.out⟩, by rw [HNN.out]; exact HS.out, Fr.refl _ _ _ _⟩
  case round =>
    obtain ⟨s', x', y', rfl, rfl, hx', hy', hs', hsr, hfr⟩ := hrel
    have HS' := Lib.hid hsr
    have HF' := Lib.hid hfr
    have R1 := root_calls hsr hs'.out.2.2.1 (x := x') (by rw [hs'.out.2.1]; exact hx') (by rw [hs'.out.2.1]; exact hn)
    have R2 := root_calls hsr hs'.out.2.2.1 (x := y') (by rw [hs'.out.2.1]; exact hy') (by rw [hs'.out.2.1]; exact hn)
    have q := eqb_int (a := s'.rt x') (b := s'.rt y')
    have hrx := hs'.out.2.2.1.rlt x' (by rw [hs'.out.2.1]; exact hx')
    have hry := hs'.out.2.2.1.rlt y' (by rw [hs'.out.2.1]; exact hy')
    have HJ := Lib.hid (hs'.out.2.2.1.join_step (x := x') (y := y') (by rw [hs'.out.2.1]; exact hx') (by rw [hs'.out.2.1]; exact hy'))
    clear hsr hfr
    by_cases he : s'.rt x' = s'.rt y'
    · have HE : Hid (T = s') := by rw [Hid, ← hs'.out.2.2.2, HJ.out, if_pos he]
      rw [decide_eq_true he] at q
      clear he
      go_wp2_with fail
      refine R1.mono ?_
      rintro e w' ⟨rfl, rfl⟩
      go_wp2_with fail
      refine R2.mono ?_
      rintro e w' ⟨rfl, rfl⟩
      clear R1 R2
      go_wp2_with fail
      refine bodyPost_ret (results_none (by kernel_rfl) _ _ _) rfl ?_
      exact ⟨rfl, by rw [HE.out]; exact HS'.out, HF'.out⟩
    · have HL : Hid ((s'.link (s'.rt x') (s'.rt y')).Ok ∧ (s'.link (s'.rt x') (s'.rt y')).roots < gk) := ⟨hs'.out.2.2.1.link hrx hry (hs'.out.2.2.1.top x' (by rw [hs'.out.2.1]; exact hx')) (hs'.out.2.2.1.top y' (by rw [hs'.out.2.1]; exact hy')) he, by have := hs'.out.2.2.1.link_roots hrx hry (hs'.out.2.2.1.top x' (by rw [hs'.out.2.1]; exact hx')) (hs'.out.2.2.1.top y' (by rw [hs'.out.2.1]; exact hy')) he; have := hs'.out.1; omega⟩
      have HJ2 : Hid (T = if s'.car (s'.rt x') < 0 then (s'.link (s'.rt x') (s'.rt y')).setCar (s'.rt x') (s'.car (s'.rt y')) else if 0 ≤ s'.car (s'.rt y') then (s'.link (s'.rt x') (s'.rt y')).join (s'.car (s'.rt x')).toNat (s'.car (s'.rt y')).toNat else s'.link (s'.rt x') (s'.rt y')) := by rw [Hid, ← hs'.out.2.2.2, HJ.out, if_neg he]
      rw [decide_eq_false he] at q
      rw [hs'.out.2.1] at hrx hry
      have c0 := HS'.out.c0
      have c1 := HS'.out.c1
      have hsr2 := HS'.out.r2
      have hsr1 := HS'.out.r1
      rw [hs'.out.2.1] at hsr1 hsr2
      have d1 := hsr2.cell hrx
      have d2 := hsr2.cell hry
      have f1 := hsr1.frozen (s'.rt y')
      have d3 := hsr1.cell hry
      have HC : Hid ((-1 ≤ s'.car (s'.rt x') ∧ s'.car (s'.rt x') < n) ∧ (-1 ≤ s'.car (s'.rt y') ∧ s'.car (s'.rt y') < n)) := by
        have h1 := hs'.out.2.2.1.clo (s'.rt x') (by rw [hs'.out.2.1]; exact hrx)
        have h2 := hs'.out.2.2.1.clo (s'.rt y') (by rw [hs'.out.2.1]; exact hry)
        rw [hs'.out.2.1] at h1 h2
        exact ⟨h1, h2⟩
      have HNS : Hid (s'.n = n) := hs'.out.2.1
      clear he HJ hsr1 hsr2 hs' hx' hy'
      generalize s'.car (s'.rt x') = A at d1 HC HJ2
      generalize s'.car (s'.rt y') = Bv at d2 HC HJ2
      generalize s'.rt x' = X at *
      generalize s'.rt y' = Y at *
      generalize s'.par Y = Z at d3
      go_wp2_with fail
      refine R1.mono ?_
      rintro e w' ⟨rfl, rfl⟩
      go_wp2_with fail
      refine R2.mono ?_
      rintro e w' ⟨rfl, rfl⟩
      clear R1 R2
      go_wp2_with fail
      go_quiet (fail)
      go_upto_region 4 with fail
      obtain ⟨W2, hW2⟩ : ∃ W2, W2 = (w'.drewN nq).setCell ⟨r1, Y, none⟩ (.int .i64 (X : Nat)) := ⟨_, rfl⟩
      rw [← hW2]
      have S2 : SrAt W2 N g (.slice (some ⟨r1, 0, none⟩) n cap1) (.slice (some ⟨r2, 0, none⟩) n cap2) ex (s'.link X Y) := by
        have hN := HNS.out
        subst hN
        rw [hW2]; exact (HS'.out.drewN nq).link hry
      have F2 : Fr w g (.slice (some ⟨r1, 0, none⟩) n cap1) (.slice (some ⟨r2, 0, none⟩) n cap2) W2 (.slice (some ⟨r1, 0, none⟩) n cap1) (.slice (some ⟨r2, 0, none⟩) n cap2) := by rw [hW2]; exact HF'.out.trans ((Fr.drewN _ _ _ _ nq).trans (Fr.set _ _ (.inl rfl) _ _))
      clear hW2 c0 c1 d1 d2 d3 f1
      have HS2 := Lib.hid S2
      have HF2 := Lib.hid F2
      have c1 := S2.c1
      have k2 := S2.r2
      have hln : (s'.link X Y).n = n := HNS.out
      rw [hln] at k2
      have d1 := k2.cell (x := X) hrx
      have f1 := k2.frozen X
      have HLN := Lib.hid hln
      clear S2 F2 k2 hln
      by_cases hA : A < 0
      · have HE : Hid (T = (s'.link X Y).setCar X Bv) := by rw [Hid, HJ2.out, if_pos hA]
        have HPU : Hid (SrAt (W2.setCell ⟨r2, X, none⟩ (.int .i64 Bv)) N g (.slice (some ⟨r1, 0, none⟩) n cap1) (.slice (some ⟨r2, 0, none⟩) n cap2) ex ((s'.link X Y).setCar X Bv)) := by
          have hN := HNS.out
          subst hN
          exact SrAt.put (s := s'.link X Y) HS2.out hrx Bv
        go_wp2_with fail
        refine bodyPost_ret (results_none (by kernel_rfl) _ _ _) rfl ?_
        exact ⟨rfl, by rw [HE.out]; exact HPU.out, HF2.out.trans (Fr.set _ _ (.inr rfl) _ _)⟩
      · by_cases hB : Bv < 0
        · have HE : Hid (T = s'.link X Y) := by rw [Hid, HJ2.out, if_neg hA, if_neg (by omega)]
          go_wp2_with fail
          refine bodyPost_ret (results_none (by kernel_rfl) _ _ _) rfl ?_
          exact ⟨rfl, by rw [HE.out]; exact HS2.out, HF2.out⟩
        · obtain ⟨a, rfl⟩ : ∃ a : Nat, A = a := ⟨A.toNat, by omega⟩
          obtain ⟨b, rfl⟩ : ∃ a : Nat, Bv = a := ⟨Bv.toNat, by omega⟩
          have hA0 : (0 : Int) ≤ (a : Int) := Int.natCast_nonneg a
          have hB0 : (0 : Int) ≤ (b : Int) := Int.natCast_nonneg b
          have HE : Hid (T = (s'.link X Y).join a b) := by rw [Hid, HJ2.out, if_neg hA, if_pos hB0, Int.toNat_natCast, Int.toNat_natCast]
          go_wp2_with fail
          go_roundg (s'.link X Y).roots
          case measure => exact HL.out.2
          case rel => exact ⟨s'.link X Y, a, b, rfl, rfl, by have := HC.out.1.2; omega, by have := HC.out.2.2; omega, ⟨rfl, HLN.out, HL.out.1, HE.out.symm⟩, HS2.out, HF2.out⟩
set_option maxHeartbeats 2000000 in
theorem carry_calls {w : World} {N g : Nat} {v1 v2 : Value} {ex : List Value} {s : Srt} (h : SrAt w N g v1 v2 ex s) (ho : s.Ok) {x y : Nat} (hx : x < s.n) (hy : y < s.n) (hn : s.n ≤ 1000000) :
    Calls Tryz.prog 89 #[.pointer (some ⟨g, 0, none⟩), .int .i64 (x : Nat), .int .i64 (y : Nat)] w (JoinPost w N g v1 v2 ex (s.carry x y)) := by
  obtain ⟨r2, cap2, rfl, _, _, hcap2⟩ := h.r2.form (by omega)
  have R1 := root_calls h ho hx hn
  have hrx := ho.rlt x hx
  have HE : Hid (s.carry x y = if s.car (s.rt x) < 0 then s.setCar (s.rt x) (y : Int) else s.join (s.car (s.rt x)).toNat y) := rfl
  have c1 := h.c1
  have d1 := h.r2.cell hrx
  have f1 := h.r2.frozen (s.rt x)
  have HC := Lib.hid (ho.clo _ hrx)
  have HS := Lib.hid h
  have HO := Lib.hid ho
  clear h ho
  generalize s.car (s.rt x) = A at d1 HC HE
  by_cases hA : A < 0
  · go_enter Tryz.func89, Tryz.ntmps89
    go_wp2_with fail
    refine R1.mono ?_
    rintro e w' ⟨rfl, rfl⟩
    clear R1
    go_wp2_with fail
    refine bodyPost_ret (results_none (by kernel_rfl) _ _ _) rfl ?_
    exact ⟨rfl, by rw [HE.out, if_pos hA]; exact SrAt.put (s := s) HS.out hrx _, Fr.set _ _ (.inr rfl) _ _⟩
  · obtain ⟨a, rfl⟩ : ∃ a : Nat, A = a := ⟨A.toNat, by omega⟩
    have hA0 : (0 : Int) ≤ (a : Int) := Int.natCast_nonneg a
    have HJ := Lib.hid (join_calls HS.out HO.out (x := a) (by have := HC.out; omega) hy hn)
    go_enter Tryz.func89, Tryz.ntmps89
    go_wp2_with fail
    refine R1.mono ?_
    rintro e w' ⟨rfl, rfl⟩
    clear R1
    go_wp2_with fail
    refine HJ.out.mono ?_
    rintro e W3 ⟨rfl, S3, F3⟩
    go_wp2_with fail
    refine bodyPost_ret (results_none (by kernel_rfl) _ _ _) rfl ?_
    exact ⟨rfl, by rw [HE.out, if_neg (by omega), Int.toNat_natCast]; exact S3, F3⟩
end Go.Proofs.YtjgfgjhaghbehaaGreat.Rf
namespace Go.Proofs.YtjgfgjhaghbehaaGreat.Rf
open Go.RowKit Go.Proofs.YtjgfgjhaghbehaaGreatW.PrintWords Go.Proofs.YtjgfgjhaghbehaaGreatW.PrintLast Go.Proofs.YtjgfgjhaghbehaaGreatW.PrintMore
set_option linter.unusedVariables false
set_option linter.unusedSimpArgs false

section
variable {w0 w W' : World} {N g gA capA gB capB : Nat} {o1 o2 : Value} {L M : List (Nat × Int)} {ex : List Value} {s : Srt}
theorem half (h : Stg w0 w N o1 o2 (.slice (some ⟨gA, 0, none⟩) (s.n + 1) capA) o2 (s.n + 1) s.n (upd (fun i => (s.par i : Int)) s.n (s.n : Nat)) s.car L) (hS : SrAt w0 N g o1 o2 ex s) :
    Stg (w.setCell ⟨g, 0, none⟩ (.slice (some ⟨gA, 0, none⟩) (s.n + 1) capA)) (w.setCell ⟨g, 0, none⟩ (.slice (some ⟨gA, 0, none⟩) (s.n + 1) capA)) N (.slice (some ⟨gA, 0, none⟩) (s.n + 1) capA) o2 (.slice (some ⟨gA, 0, none⟩) (s.n + 1) capA) o2 (s.n + 1) s.n (upd (fun i => (s.par i : Int)) s.n (s.n : Nat)) s.car [] ∧
    (∃ e, (w.setCell ⟨g, 0, none⟩ (.slice (some ⟨gA, 0, none⟩) (s.n + 1) capA)).heap[g]? = some (.cells (.slice (some ⟨gA, 0, none⟩) (s.n + 1) capA :: o2 :: ex).toArray e (0, 0))) := by
  have hg := hS.gl
  obtain ⟨e, hc⟩ := hS.cells
  have hc2 := (h.block g hg hS.ng1 hS.ng2).trans hc
  have hN := hS.gN
  have hf : ∀ k, k ≠ g → (w.setCell ⟨g, 0, none⟩ (.slice (some ⟨gA, 0, none⟩) (s.n + 1) capA)).heap[k]? = w.heap[k]? := fun k hk => Below.heap_setCell _ _ _ k (by simpa using hk)
  exact ⟨⟨rfl, rfl, rfl, Nat.le_refl _, fun _ _ _ _ => rfl, h.r1.keep fun k hk => hf k (fun e => by have := (h.r1.own hk).1; omega), h.r2.keep fun k hk => hf k (fun e => by have := (h.r2.own hk).1; omega), fun _ h => .inl h, fun _ h => .inl h, h.ne, fun p hp => by cases hp⟩, e, cells_put0 hc2⟩
theorem whole (h : Stg w0 w N o1 o2 (.slice (some ⟨gA, 0, none⟩) (s.n + 1) capA) o2 (s.n + 1) s.n (upd (fun i => (s.par i : Int)) s.n (s.n : Nat)) s.car L) (hS : SrAt w0 N g o1 o2 ex s)
    (k : Stg (w.setCell ⟨g, 0, none⟩ (.slice (some ⟨gA, 0, none⟩) (s.n + 1) capA)) W' N (.slice (some ⟨gA, 0, none⟩) (s.n + 1) capA) o2 (.slice (some ⟨gA, 0, none⟩) (s.n + 1) capA) (.slice (some ⟨gB, 0, none⟩) (s.n + 1) capB) (s.n + 1) (s.n + 1) (upd (fun i => (s.par i : Int)) s.n (s.n : Nat)) (upd s.car s.n (-1)) M) :
    SrAt (W'.setCell ⟨g, 1, none⟩ (.slice (some ⟨gB, 0, none⟩) (s.n + 1) capB)) N g (.slice (some ⟨gA, 0, none⟩) (s.n + 1) capA) (.slice (some ⟨gB, 0, none⟩) (s.n + 1) capB) ex s.fresh ∧
    Fr w0 g o1 o2 (W'.setCell ⟨g, 1, none⟩ (.slice (some ⟨gB, 0, none⟩) (s.n + 1) capB)) (.slice (some ⟨gA, 0, none⟩) (s.n + 1) capA) (.slice (some ⟨gB, 0, none⟩) (s.n + 1) capB) := by
  have hg := hS.gl
  have hN := hS.gN
  have hs1 := h.size
  have hs2 := k.size
  have hz : (w.setCell ⟨g, 0, none⟩ (.slice (some ⟨gA, 0, none⟩) (s.n + 1) capA)).heap.size = w.heap.size := by simp [World.setCell]
  obtain ⟨_, e, hc⟩ := half h hS
  have na : (Value.slice (some ⟨gA, 0, none⟩) (s.n + 1) capA).ownBlock ≠ some g := fun e => by have := (h.r1.own e).1; omega
  have hc2 := (k.block g (by rw [hz]; omega) na hS.ng2).trans hc
  have hf : ∀ x, x ≠ g → (W'.setCell ⟨g, 1, none⟩ (.slice (some ⟨gB, 0, none⟩) (s.n + 1) capB)).heap[x]? = W'.heap[x]? := fun x hk => Below.heap_setCell _ _ _ x (by simpa using hk)
  have hf0 : ∀ x, x ≠ g → (w.setCell ⟨g, 0, none⟩ (.slice (some ⟨gA, 0, none⟩) (s.n + 1) capA)).heap[x]? = w.heap[x]? := fun x hk => Below.heap_setCell _ _ _ x (by simpa using hk)
  rw [hz] at hs2
  refine ⟨⟨⟨e, cells_put1 hc2⟩, ?_, ?_, hN, k.ne⟩, ⟨k.os.trans h.os, k.tape.trans h.tape, k.output.trans h.output, by simp [World.setCell]; omega, fun i hi hig k1 k2 => ?_, fun j hj => ?_, fun j hj => ?_⟩⟩
  · refine (k.r1.keep fun x hx => hf x (fun e => by have := (k.r1.own hx).1; omega)).congr fun i _ => ?_
    simp only [Srt.fresh, upd]; split <;> rfl
  · exact k.r2.keep fun x hx => hf x (fun e => by have := (k.r2.own hx).1; omega)
  · refine (hf i hig).trans ((k.block i (by rw [hz]; omega) (fun q => ?_) k2).trans ((hf0 i hig).trans (h.block i hi k1 k2)))
    rcases h.own1 i q with q | q
    · exact k1 q
    · omega
  · rcases h.own1 j hj with q | q
    · exact .inl q
    · exact .inr (.inr q)
  · rcases k.own2 j hj with q | q
    · exact .inr (.inl q)
    · rw [hz] at q; right; right; omega
end
def fresh_.T1 : Bool × List (List Nat × List Nat) := (true, [([], []), ([], []), ([1], [1]), ([2], [2]), ([3], [3]), ([], []), ([5], [5]), ([6], [6]), ([7], [7]), ([8], [8]), ([9], [9]), ([4, 10], [4, 10]), ([0, 0, 1, 2, 3, 4, 5, 6, 7, 8, 9, 10, 11], [0]), ([12, 0, 1, 2, 3, 4, 5, 6, 7, 8, 9, 10, 11], [12]), ([13, 11, 11, 0, 1, 2, 3, 4, 5, 6, 7, 8, 9, 10, 11], [11, 13])])
def fresh_.B1 : List Nat := [0, 0, 2, 6, 14, 0, 32, 96, 224, 480, 992, 2046, 4095, 8191, 16383]
theorem fresh_.tab1 : rtab .any (opsOf Tryz.f61 1) = fresh_.T1 := by kernel_rfl
theorem fresh_.bits1 : waitsOk fresh_.T1.2 fresh_.B1 = true := by kernel_rfl
set_option maxHeartbeats 8000000 in
set_option maxRecDepth 100000 in
theorem fresh_calls {w : World} {N g : Nat} {v1 v2 : Value} {ex : List Value} {s : Srt} (h : SrAt w N g v1 v2 ex s) (hn : s.n ≤ 1000000) (hN : N ≤ w.heap.size) :
    Calls Tryz.prog 61 #[.pointer (some ⟨g, 0, none⟩)] w fun e w' => ∃ u1 u2, e = .returned (.int .i64 (s.n : Nat)) ∧ SrAt w' N g u1 u2 ex s.fresh ∧ Fr w g v1 v2 w' u1 u2 := by
  obtain ⟨o1, cap1, hv1⟩ := h.r1.shape
  obtain ⟨o2, cap2, hv2⟩ := h.r2.shape
  obtain ⟨i0, hi, hz0, hz1, hz2⟩ := info_parts Tryz.infoInt
  have c0 := h.c0
  have hg := h.gl
  have n1 := h.ng1
  have n2 := h.ng2
  have T := h.stage
  have HS := Lib.hid h
  have f0 := h.fz 0
  clear h
  subst hv1 hv2
  go_enter Tryz.func61, Tryz.ntmps61
  go_wp2_with fail
  refine start_ (n := 15) (S := fun w' => w'.cell? ⟨g, 0, none⟩ = some (.slice o1 s.n cap1)) (ds := [14]) #[false, false, false, false, false, false, false, false, false, false, false, false, false, false, false] (by kernel_rfl) rfl rfl (((T.at_ hg n1 n2 0).1.trans c0)) (fun hHeld => ?_)
  refine with_tabW fresh_.tab1 fresh_.bits1 (fun HT_ HW_ => ?_)
  generalize w.drew = W at T hHeld ⊢
  refine pure_ (i := 0) (N := some 3) (v := ?_) (a' := ?_) #[true, false, false, false, false, false, false, false, false, false, false, false, false, false, false] rfl rfl (any_of HT_.out (by kernel_rfl)) (fun _ _ _ h => h) (Or.inl ⟨by rfl, ?_⟩) ?_ ?_
  rotate_left; (intro w'; go_simp; with_reducible rfl); rotate_left; (simp only [Act.put, List.setIfInBounds_toArray, List.set_cons_zero, List.set_cons_succ, i64_w, i32_w]; rfl)
  refine pure_ (i := 1) (N := some 4) (v := ?_) (a' := ?_) #[true, true, false, false, false, false, false, false, false, false, false, false, false, false, false] rfl rfl (any_of HT_.out (by kernel_rfl)) (fun _ _ _ h => h) (Or.inl ⟨by rfl, ?_⟩) ?_ ?_
  rotate_left; (intro w'; go_simp; with_reducible rfl); rotate_left; (simp only [Act.put, List.setIfInBounds_toArray, List.set_cons_zero, List.set_cons_succ, i64_w, i32_w]; rfl)
  refine pure_ (i := 2) (N := some 5) (v := ?_) (a' := ?_) #[true, true, true, false, false, false, false, false, false, false, false, false, false, false, false] rfl rfl (any_of HT_.out (by kernel_rfl)) (fun _ _ _ h => h) (Or.inl ⟨by rfl, ?_⟩) ?_ ?_
  rotate_left; (intro w'; go_simp; with_reducible rfl); rotate_left; (simp only [Act.put, List.setIfInBounds_toArray, List.set_cons_zero, List.set_cons_succ, i64_w, i32_w]; rfl)
  refine pure_ (i := 3) (N := some 6) (v := ?_) (a' := ?_) #[true, true, true, true, false, false, false, false, false, false, false, false, false, false, false] rfl rfl (any_of HT_.out (by kernel_rfl)) (fun _ _ _ h => h) (Or.inl ⟨by rfl, ?_⟩) ?_ ?_
  rotate_left; (intro w'; go_simp; with_reducible rfl); rotate_left; (simp only [Act.put, List.setIfInBounds_toArray, List.set_cons_zero, List.set_cons_succ, i64_w, i32_w]; rfl)
  refine pure_ (i := 5) (N := some 8) (v := ?_) (a' := ?_) #[true, true, true, true, false, true, false, false, false, false, false, false, false, false, false] rfl rfl (any_of HT_.out (by kernel_rfl)) (fun _ _ _ h => h) (Or.inl ⟨by rfl, ?_⟩) ?_ ?_
  rotate_left; (intro w'; go_simp; with_reducible rfl); rotate_left; (simp only [Act.put, List.setIfInBounds_toArray, List.set_cons_zero, List.set_cons_succ, i64_w, i32_w]; rfl)
  refine pure_ (i := 6) (N := some 9) (v := ?_) (a' := ?_) #[true, true, true, true, false, true, true, false, false, false, false, false, false, false, false] rfl rfl (any_of HT_.out (by kernel_rfl)) (fun _ _ _ h => h) (Or.inl ⟨by rfl, ?_⟩) ?_ ?_
  rotate_left; (intro w'; go_simp; with_reducible rfl); rotate_left; (simp only [Act.put, List.setIfInBounds_toArray, List.set_cons_zero, List.set_cons_succ, i64_w, i32_w]; rfl)
  refine pure_ (i := 7) (N := some 10) (v := ?_) (a' := ?_) #[true, true, true, true, false, true, true, true, false, false, false, false, false, false, false] rfl rfl (any_of HT_.out (by kernel_rfl)) (fun _ _ _ h => h) (Or.inl ⟨by rfl, ?_⟩) ?_ ?_
  rotate_left; (intro w'; go_simp; with_reducible rfl); rotate_left; (simp only [Act.put, List.setIfInBounds_toArray, List.set_cons_zero, List.set_cons_succ, i64_w, i32_w]; rfl)
  refine take_ (i := 4) (N := some 7) (v := ?_) (a' := ?_) #[true, true, true, true, true, true, true, true, false, false, false, false, false, false, false] rfl rfl (take_ofW HT_.out HW_.out (by kernel_rfl)) (fun _ _ _ h => h) (Or.inl ⟨by rfl, ?_⟩) hHeld ?_ ?_
  rotate_left; (intro w' s0; go_simp; with_reducible rfl); rotate_left; (simp only [Act.put, List.setIfInBounds_toArray, List.set_cons_zero, List.set_cons_succ, i64_w, i32_w]; rfl)
  refine take_ (i := 8) (N := some 11) (v := ?_) (a' := ?_) #[true, true, true, true, true, true, true, true, true, false, false, false, false, false, false] rfl rfl (take_ofW HT_.out HW_.out (by kernel_rfl)) (fun _ _ _ h => h) (Or.inl ⟨by rfl, ?_⟩) hHeld ?_ ?_
  rotate_left; (intro w' s0; go_simp; with_reducible rfl); rotate_left; (simp only [Act.put, List.setIfInBounds_toArray, List.set_cons_zero, List.set_cons_succ, i64_w, i32_w]; rfl)
  refine pure_ (i := 9) (N := some 12) (v := ?_) (a' := ?_) #[true, true, true, true, true, true, true, true, true, true, false, false, false, false, false] rfl rfl (any_of HT_.out (by kernel_rfl)) (fun _ _ _ h => h) (Or.inl ⟨by rfl, ?_⟩) ?_ ?_
  rotate_left; (intro w'; go_simp; with_reducible rfl); rotate_left; (simp only [Act.put, List.setIfInBounds_toArray, List.set_cons_zero, List.set_cons_succ, i64_w, i32_w]; rfl)
  refine one_ (i := 10) (N := some 13) #[true, true, true, true, true, true, true, true, true, true, true, false, false, false, false] rfl rfl (one_of HT_.out (by kernel_rfl)) (by decide) (fun K hK => ?_)
  refine value_ (w1 := W.alloc (.cells #[.int .i64 (s.n : Nat)] 3)) (v := .slice (some ⟨W.heap.size, 0, none⟩) 1 1) (by rfl) rfl ?_ ?_
  · go_simp
  replace T := T.lit (s.n : Nat)
  obtain ⟨HA, hH⟩ : ∃ H, H = W.heap.size := ⟨_, rfl⟩
  rw [← hH] at T ⊢
  obtain ⟨W, hW⟩ : ∃ W', W' = W.alloc (.cells #[.int .i64 (s.n : Nat)] 3) := ⟨_, rfl⟩
  rw [← hW] at T ⊢
  clear hH hW hHeld
  refine hK.out _ _ (((T.at_ hg n1 n2 0).1.trans c0)) (fun hHeld => ?_)
  clear hK K
  refine norm_ (a' := ?_) ?_ ?_
  rotate_left
  · show Act.put _ (some 13) _ = _
    simp only [Act.put, List.setIfInBounds_toArray, List.set_cons_zero, List.set_cons_succ, i64_w, i32_w]
    rfl
  refine one_ (i := 11) (N := some 14) #[true, true, true, true, true, true, true, true, true, true, true, true, false, false, false] rfl rfl (one_of HT_.out (by kernel_rfl)) (by decide) (fun K hK => ?_)
  refine step_append_lies _ (by rfl) (.tmp 7) (.tmp 13) _ (by rfl) N 3 i0 _ 1 8 Tryz.underlying47 hi hz0 hz1 hz2 rfl (by omega) (.slice o1 s.n cap1) s.n (ints s.n (fun i => (s.par i : Int))) (by rfl) (rw_own T.r1) ⟨HA, 0, none⟩ 1 1 [.int .i64 (s.n : Nat)] (by rfl) (by rfl) (one_news _ _ _ 3 (T.pend (HA, (s.n : Nat)) (by simp)).1) (by simp [Value.oneCell']) (by omega) (by unfold maxLen; omega) (by omega) (by have := T.size; omega) _ rfl ?_
  intro gA capA W hown hgrow hat hlt
  replace T := T.app1 hown hgrow hat
  clear hown hgrow hat hlt hHeld
  refine hK.out _ _ (((T.at_ hg n1 n2 0).1.trans c0)) (fun hHeld => ?_)
  clear hK K
  refine norm_ (a' := ?_) ?_ ?_
  rotate_left
  · show Act.put _ (some 14) _ = _
    simp only [Act.put, List.setIfInBounds_toArray, List.set_cons_zero, List.set_cons_succ, i64_w, i32_w]
    rfl
  refine pure_ (i := 12) (N := some 15) (v := ?_) (a' := ?_) #[true, true, true, true, true, true, true, true, true, true, true, true, true, false, false] rfl rfl (any_of HT_.out (by kernel_rfl)) (fun _ _ _ h => h) (Or.inl ⟨by rfl, ?_⟩) ?_ ?_
  rotate_left; (intro w'; go_simp; with_reducible rfl); rotate_left; (simp only [Act.put, List.setIfInBounds_toArray, List.set_cons_zero, List.set_cons_succ, i64_w, i32_w]; rfl)
  refine pure_ (i := 13) (N := some 16) (v := ?_) (a' := ?_) #[true, true, true, true, true, true, true, true, true, true, true, true, true, true, false] rfl rfl (any_of HT_.out (by kernel_rfl)) (fun _ _ _ h => h) (Or.inl ⟨by rfl, ?_⟩) ?_ ?_
  rotate_left; (intro w'; go_simp; with_reducible rfl); rotate_left; (simp only [Act.put, List.setIfInBounds_toArray, List.set_cons_zero, List.set_cons_succ, i64_w, i32_w]; rfl)
  refine last_ (i := 14) (N := none) #[true, true, true, true, true, true, true, true, true, true, true, true, true, true, true] rfl rfl (one_of HT_.out (by kernel_rfl)) (by decide) (fun K hK => ?_)
  have k0 := (T.at_ hg n1 n2 0).1.trans c0
  have z0 := (T.at_ hg n1 n2 0).2.trans f0
  refine skip_ (w1 := ?_) (by rfl) rfl ?_ ?_
  rotate_left
  · go_simp
    rfl
  refine hK.out _ _ ?_
  clear hK K
  refine done_ (done_of HT_.out (by kernel_rfl)) ?_
  obtain ⟨T2, e2, hc2⟩ := half T HS.out
  have HT1 := Lib.hid T
  have HN2 : Hid (N ≤ (W.setCell ⟨g, 0, none⟩ (.slice (some ⟨gA, 0, none⟩) (s.n + 1) capA)).heap.size) := by have := T.size; show _ ≤ _; simp [World.setCell]; omega
  have hg2 : g < (W.setCell ⟨g, 0, none⟩ (.slice (some ⟨gA, 0, none⟩) (s.n + 1) capA)).heap.size := by have := T.size; simp [World.setCell]; omega
  have m1 : (Value.slice (some ⟨gA, 0, none⟩) (s.n + 1) capA).ownBlock ≠ some g := fun e => by have := (T.r1.own e).1; have := HS.out.gN; omega
  have HWH : Hid (∀ W' gB capB M, Stg (W.setCell ⟨g, 0, none⟩ (.slice (some ⟨gA, 0, none⟩) (s.n + 1) capA)) W' N (.slice (some ⟨gA, 0, none⟩) (s.n + 1) capA) (.slice o2 s.n cap2) (.slice (some ⟨gA, 0, none⟩) (s.n + 1) capA) (.slice (some ⟨gB, 0, none⟩) (s.n + 1) capB) (s.n + 1) (s.n + 1) (upd (fun i => (s.par i : Int)) s.n (s.n : Nat)) (upd s.car s.n (-1)) M → SrAt (W'.setCell ⟨g, 1, none⟩ (.slice (some ⟨gB, 0, none⟩) (s.n + 1) capB)) N g (.slice (some ⟨gA, 0, none⟩) (s.n + 1) capA) (.slice (some ⟨gB, 0, none⟩) (s.n + 1) capB) ex s.fresh ∧ Fr w g (.slice o1 s.n cap1) (.slice o2 s.n cap2) (W'.setCell ⟨g, 1, none⟩ (.slice (some ⟨gB, 0, none⟩) (s.n + 1) capB)) (.slice (some ⟨gA, 0, none⟩) (s.n + 1) capA) (.slice (some ⟨gB, 0, none⟩) (s.n + 1) capB)) := fun W' gB capB M k => whole HT1.out HS.out k
  clear T
  generalize W.setCell ⟨g, 0, none⟩ (.slice (some ⟨gA, 0, none⟩) (s.n + 1) capA) = W2 at T2 hc2 HN2 hg2 HWH ⊢
  have c1 : W2.cell? ⟨g, 1, none⟩ = some (.slice o2 s.n cap2) := by rw [blk_cell hc2]; rfl
  have f1 : W2.frozen? ⟨g, 1, none⟩ = false := blk_frozen hc2 1
  have T := T2
  have hN := HN2.out
  replace hg := hg2
  clear T2 hc2 k0 z0 c0 f0 hg2 n1
  have c5 : (W2.alloc (.cells #[.int .i64 (-1)] 3)).cell? ⟨g, 1, none⟩ = some (.slice o2 s.n cap2) := (Below.cell ((Below.refl W2.heap.size W2).alloc (Nat.le_refl _) _) hg).trans c1
  go_upto_region 3 with (first | ((with_reducible refine gate_dst (N := 23) rfl ?_); refine wpList_append_lies _ (by rfl) (.tmp 21) (.tmp 22) _ (by rfl) N 3 i0 _ 1 8 Tryz.underlying47 hi hz0 hz1 hz2 rfl (by omega) (.slice o2 s.n cap2) s.n (ints s.n s.car) (by rfl) (rw_own (T.lit (-1)).r2) ⟨W2.heap.size, 0, none⟩ 1 1 [.int .i64 (-1)] (by rfl) (by rfl) (one_news _ _ _ 3 ((T.lit (-1)).pend (W2.heap.size, -1) (by simp)).1) (by simp [Value.oneCell']) (by omega) (by unfold maxLen; omega) (by omega) (by simp; omega) _ rfl ?_; intro gB capB W hown hgrow hat hlt; replace T := (T.lit (-1)).app2 hown hgrow hat; have k1 := (T.at_ hg m1 n2 1).1.trans c1; have z1 := (T.at_ hg m1 n2 1).2.trans f1; clear hown hgrow hat hlt))
  obtain ⟨D1, D2⟩ := HWH.out _ _ _ _ T
  obtain ⟨W3, hW3⟩ : ∃ W3, W3 = W.setCell ⟨g, 1, none⟩ (.slice (some ⟨gB, 0, none⟩) (s.n + 1) capB) := ⟨_, rfl⟩
  rw [← hW3] at D1 D2 ⊢
  have e0 := D1.c0
  have HD1 := Lib.hid D1
  have HD2 := Lib.hid D2
  clear hW3 D1 D2 T HS HWH k1 z1 HT1 c5 c1 f1
  go_wp2_with fail
  go_ret
  exact ⟨_, _, by simp, HD1.out, HD2.out⟩
end Go.Proofs.YtjgfgjhaghbehaaGreat.Rf
namespace Go.Proofs.YtjgfgjhaghbehaaGreat.Rf
open Go.RowKit Go.Proofs.YtjgfgjhaghbehaaGreatW.PrintWords Go.Proofs.YtjgfgjhaghbehaaGreatW.PrintMore
set_option linter.unusedVariables false
set_option linter.unusedSimpArgs false

def lvlV : Option Nat → Value
  | some k => .tuple #[.int .i64 ((k : Nat) : Int), .bool true]
  | Option.none => .tuple #[.int .i64 0, .bool false]
theorem lvl_end (s : Srt) {m i y : Nat} (h : s.car (s.rt y) < 0) : s.lvlF (m + 1) i y = some i := by
  unfold Srt.lvlF Srt.stp
  rw [if_neg (by omega : ¬ ((y : Int) < 0)), Int.toNat_natCast, if_pos (by unfold Srt.nxt; rw [if_pos h]; omega)]
theorem lvl_on (s : Srt) {m i y : Nat} (h : ¬ s.car (s.rt y) < 0) : s.lvlF (m + 1) i y = s.lvlF m (i + 1) ((s.rt (s.car (s.rt y)).toNat : Nat) : Int) := by
  have e : s.stp (y : Int) = ((s.rt (s.car (s.rt y)).toNat : Nat) : Int) := by
    unfold Srt.stp
    rw [if_neg (by omega : ¬ ((y : Int) < 0)), Int.toNat_natCast]
    unfold Srt.nxt; rw [if_neg h]
  conv => lhs; unfold Srt.lvlF
  rw [e, if_neg (by omega)]
set_option maxHeartbeats 2000000 in
theorem level_calls {w : World} {N g : Nat} {v1 v2 : Value} {ex : List Value} {s : Srt} (h : SrAt w N g v1 v2 ex s) (ho : s.Ok) {x : Nat} (hx : x < s.n) (hn : s.n ≤ 1000000) :
    Calls Tryz.prog 53 #[.pointer (some ⟨g, 0, none⟩), .int .i64 (x : Nat)] w fun e w' => e = .returned (lvlV (s.lvl x)) ∧ w' = w := by
  obtain ⟨o1, cap1, hv1⟩ := h.r1.shape
  obtain ⟨r2, cap2, rfl, hr, hrl, hcap⟩ := h.r2.form (by omega)
  subst hv1
  have c0 := h.c0
  have c1 := h.c1
  have HC : Hid (∀ y, y < s.n → w.cell? ⟨r2, y, none⟩ = some (.int .i64 (s.car y))) := fun y hy => h.r2.cell hy
  have hrx := ho.rlt x hx
  have hroot := root_calls h ho hx hn
  have HS := Lib.hid h
  have HO := Lib.hid ho
  have HR : Hid (s.rt (s.rt x) = s.rt x) := ho.rr hx
  have HV : Hid (s.lvl x = s.lvlF (s.n + 1) 0 (s.rt x)) := rfl
  clear h ho hr hrl
  generalize s.rt x = r at *
  go_enter Tryz.func53, Tryz.ntmps53
  go_wp2_with fail
  refine hroot.mono ?_
  rintro e w' ⟨rfl, rfl⟩
  clear hroot
  go_wp2_with fail
  go_loop [1, 6] (fun y i => ∃ (k v : Nat), k ≤ s.n + 1 ∧ i = .int .i64 k ∧ y = .int .i64 v ∧ v < s.n ∧ Hid (s.rt v = v) ∧ Hid (s.lvl x = s.lvlF (s.n + 1 - k) k v)) (fun _ i => s.n + 1 - (intOf i).toNat)
  case atStart => exact ⟨0, r, Nat.zero_le _, rfl, rfl, hrx, HR.out, HV.out⟩
  case round =>
    obtain ⟨k, v, hk, rfl, rfl, hv, hrt, he⟩ := hrel
    by_cases hlt : k < s.n + 1
    · have hc := HC.out v hv
      have hE : s.n + 1 - k = (s.n - k) + 1 := by omega
      by_cases h1 : s.car v < 0
      · have HF : Hid (s.lvl x = some k) := by rw [Hid, he.out, hE]; exact lvl_end s (by rw [hrt.out]; exact h1)
        clear hE
        go_wp2_with fail
        go_ret2
        exact ⟨by rw [HF.out]; rfl, rfl⟩
      · have HF : Hid (s.lvl x = s.lvlF (s.n + 1 - (k + 1)) (k + 1) ((s.rt (s.car v).toNat : Nat) : Int)) := by
          rw [Hid, he.out, hE, lvl_on s (by rw [hrt.out]; exact h1), hrt.out]
          congr 1; omega
        have hcl := (HO.out.clo v hv).2
        obtain ⟨z, hz⟩ : ∃ z : Nat, s.car v = z := ⟨(s.car v).toNat, by omega⟩
        rw [hz] at hc h1 hcl HF
        have hzn : z < s.n := by omega
        rw [Int.toNat_natCast] at HF
        have HZ : Hid (s.rt z < s.n ∧ s.rt (s.rt z) = s.rt z) := ⟨HO.out.rlt z hzn, HO.out.rr hzn⟩
        have hrz := root_calls HS.out HO.out hzn hn
        clear hE hz
        go_wp2_with fail
        refine hrz.mono ?_
        rintro e w2 ⟨rfl, rfl⟩
        clear hrz
        go_wp2_with fail
        go_round
        case rel => exact ⟨k + 1, s.rt z, by omega, by go_num, rfl, HZ.out.1, HZ.out.2, HF⟩
        case measure => simp [intOf]; omega
    · have HF : Hid (s.lvl x = Option.none) := by rw [Hid, he.out, show s.n + 1 - k = 0 from by omega]; rfl
      go_wp2_with fail
      go_ret2
      exact ⟨by rw [HF.out]; rfl, rfl⟩
set_option maxHeartbeats 2000000 in
theorem able_calls {w : World} {N g : Nat} {v1 v2 : Value} {ex : List Value} {s : Srt} (h : SrAt w N g v1 v2 ex s) (ho : s.Ok) (hn : s.n ≤ 1000000) :
    Calls Tryz.prog 52 #[.pointer (some ⟨g, 0, none⟩)] w fun e w' => e = .returned (.bool s.able) ∧ w' = w := by
  obtain ⟨o1, cap1, hv1⟩ := h.r1.shape
  subst hv1
  have c0 := h.c0
  have HS := Lib.hid h
  have HO := Lib.hid ho
  clear h ho
  go_enter Tryz.func52, Tryz.ntmps52
  go_wp2_with fail
  go_loop [11] (fun i => ∃ k : Nat, k ≤ s.n ∧ i = .int .i64 k ∧ Hid ((List.range k).all (fun x => (s.lvl x).isSome) = true)) (fun i => s.n - (intOf i).toNat)
  case atStart => exact ⟨0, Nat.zero_le _, rfl, rfl⟩
  case round =>
    obtain ⟨k, hk, rfl, ha⟩ := hrel
    by_cases hlt : k < s.n
    · have hr := level_calls HS.out HO.out hlt hn
      rcases hq : s.lvl k with _ | m
      · have HA : Hid (s.able = false) := by
          rw [Hid]; unfold Srt.able; rw [List.all_eq_false]; exact ⟨k, List.mem_range.mpr hlt, by simp [hq]⟩
        rw [hq] at hr
        simp only [lvlV] at hr
        clear hq
        go_wp2_with fail
        refine hr.mono ?_
        rintro e w3 ⟨rfl, rfl⟩
        clear hr
        go_wp2_with fail
        go_ret
        exact ⟨by rw [HA.out]; rfl, rfl⟩
      · have HA : Hid ((List.range (k + 1)).all (fun x => (s.lvl x).isSome) = true) := by rw [Hid, List.range_succ, List.all_append, ha.out]; simp [hq]
        rw [hq] at hr
        simp only [lvlV] at hr
        clear hq
        go_wp2_with fail
        refine hr.mono ?_
        rintro e w3 ⟨rfl, rfl⟩
        clear hr
        go_wp2_with fail
        go_round
        case rel => exact ⟨k + 1, by omega, by go_num, HA⟩
        case measure => simp [intOf]; omega
    · have HA : Hid (s.able = true) := by
        rw [Hid]; unfold Srt.able; rw [show s.n = k from by omega]; exact ha.out
      go_wp2_with fail
      go_ret
      exact ⟨by rw [HA.out]; rfl, rfl⟩
end Go.Proofs.YtjgfgjhaghbehaaGreat.Rf
namespace Go.Proofs.YtjgfgjhaghbehaaGreat.Rf
open Go.RowKit Go.Proofs.YtjgfgjhaghbehaaGreatW.PrintWords Go.Proofs.YtjgfgjhaghbehaaGreatW.PrintLast Go.Proofs.YtjgfgjhaghbehaaGreatW.PrintMore Go.Proofs.YtjgfgjhaghbehaaGreat.Pfind Go.Proofs.YtjgfgjhaghbehaaGreat.Pwith
set_option linter.unusedVariables false
set_option linter.unusedSimpArgs false

def fnd : List UInt8 → List Int → UInt8 → Int
  | n :: ns, i :: is, d => if n = d then i else fnd ns is d
  | _, _, _ => 0
theorem find_at (names : List UInt8) (ids : List Int) (d : UInt8) (hl : names.length = ids.length) (hn : names.length ≤ 1000000) : ∀ (m j k : Nat), m + j = names.length → m < k →
    spec_soScope_find.l0 k (vl d) (j : Int) (B names) ids = some (fnd (names.drop j) (ids.drop j) d) := by
  intro m
  induction m with
  | zero =>
    intro j k hm hk
    obtain ⟨k, rfl⟩ : ∃ q, k = q + 1 := ⟨k - 1, by omega⟩
    unfold spec_soScope_find.l0
    rw [if_neg (by rw [B_size]; omega), List.drop_eq_nil_of_le (by omega)]
    rfl
  | succ m ih =>
    intro j k hm hk
    obtain ⟨k, rfl⟩ : ∃ q, k = q + 1 := ⟨k - 1, by omega⟩
    have hj : j < names.length := by omega
    have hj2 : j < ids.length := by omega
    unfold spec_soScope_find.l0
    rw [if_pos (by rw [B_size]; omega), if_pos (by omega), bt_B, Int.toNat_natCast, List.drop_eq_getElem_cons hj, List.drop_eq_getElem_cons hj2]
    have hat : at_ names j = vl names[j] := by unfold at_; rw [List.getElem?_eq_getElem hj]; rfl
    rw [hat]
    simp only [fnd]
    by_cases h : names[j] = d
    · rw [if_pos (by rw [h]), if_pos (by omega), if_pos h]
      unfold rd
      simp [List.getD, hj2]
    · rw [if_neg (fun e => h (vl_inj.mp e)), if_neg h, show wrap64 ((j : Int) + 1) = ((j + 1 : Nat) : Int) from by rw [wrap_id (by omega) (by omega)]; omega]
      exact ih (j + 1) k (by omega) (by omega)
theorem find_f (names : List UInt8) (ids : List Int) (d : UInt8) (hl : names.length = ids.length) (hn : names.length ≤ 1000000) : spec_soScope_find.f 1000002 (B names) ids (vl d) = some (fnd names ids d) :=
  find_at names ids d hl hn names.length 0 _ (by omega) (by omega)
theorem with_f (names : List UInt8) (ids : List Int) (d : UInt8) (x : Int) (hn : names.length ≤ 1000000) (hi : ids.length ≤ 1000000) : spec_soScope_with.f (B names) ids (vl d) x = some (B (d :: names), x :: ids) := by
  have hs : strOfNums [vl d] = B [d] := by simp [strOfNums, B, vl]
  unfold spec_soScope_with.f
  simp only [Option.bind_some, hs]
  rw [if_pos (by rw [B_size, B_size]; simp; omega), if_pos (by simp; omega), B_append]
  rfl

structure Scp (w : World) (names : List UInt8) (A : Option Addr) (c : Nat) (ids : List Int) (e : UInt8 → Nat) : Prop where
  row : Kd.C (Kd.int .i64) w A ids.length ids
  cap : ids.length ≤ c
  len : names.length = ids.length
  fnd : ∀ d, fnd names ids d = ((e d : Nat) : Int)
structure RK (w wr : World) (N g E : Nat) (v1 v2 : Value) (ex : List Value) (s : Srt) (names : List UInt8) (A : Option Addr) (c : Nat) (ids : List Int) (e : UInt8 → Nat) (K : List (Nat × Obj)) : Prop where
  sr : ∃ u1 u2, SrAt wr N g u1 u2 ex s ∧ Fr w g v1 v2 wr u1 u2 ∧ (u1.ownBlock ≠ some E ∧ u2.ownBlock ≠ some E) ∧ (∀ p, p ∈ K → u1.ownBlock ≠ some p.1 ∧ u2.ownBlock ≠ some p.1) ∧ (∀ ad, A = some ad → u1.ownBlock ≠ some ad.block ∧ u2.ownBlock ≠ some ad.block)
  box : ∃ t, wr.heap[E]? = some (.cells #[.string (B names), .slice A ids.length c] t (0, 0))
  kp : ∀ p, p ∈ K → wr.heap[p.1]? = some p.2 ∧ p.1 ≠ g ∧ p.1 ≠ E
  eg : E ≠ g ∧ w.heap.size ≤ E
  sc : Scp wr names A c ids e
  ag : ∀ ad, A = some ad → ad.block ≠ g ∧ ad.block < wr.heap.size
  nle : N ≤ wr.heap.size
section
variable {w wr w' : World} {N g E c : Nat} {v1 v2 u1 u2 x1 x2 : Value} {ex : List Value} {s s' : Srt} {names : List UInt8} {A : Option Addr} {ids : List Int} {e : UInt8 → Nat} {K : List (Nat × Obj)}
theorem RK.cells (h : RK w wr N g E v1 v2 ex s names A c ids e K) : wr.cell? ⟨E, 0, none⟩ = some (.string (B names)) ∧ wr.cell? ⟨E, 1, none⟩ = some (.slice A ids.length c) ∧ wr.frozen? ⟨E, 0, none⟩ = false ∧ wr.frozen? ⟨E, 1, none⟩ = false := by
  obtain ⟨t, h⟩ := h.box
  exact ⟨blk_cell h 0, blk_cell h 1, blk_frozen h 0, blk_frozen h 1⟩
theorem RK.below (h : RK w wr N g E v1 v2 ex s names A c ids e K) (hb : Below wr.heap.size wr w') : RK w w' N g E v1 v2 ex s names A c ids e K := by
  obtain ⟨⟨u1, u2, a1, a2, a3, a4, a5⟩, ⟨t, b⟩, k, eg, ⟨r, rc, rl, rf⟩, ag, n⟩ := h
  exact ⟨⟨u1, u2, a1.below hb, a2.grow hb, a3, a4, a5⟩, ⟨t, blk_below b hb⟩, fun p hp => ⟨blk_below (k p hp).1 hb, (k p hp).2⟩, eg, ⟨Kd.C_below r hb, rc, rl, rf⟩, fun ad ha => ⟨(ag ad ha).1, Nat.lt_of_lt_of_le (ag ad ha).2 hb.size⟩, Nat.le_trans n hb.size⟩
theorem RK.step (h : RK w wr N g E v1 v2 ex s names A c ids e K) (hs : SrAt wr N g u1 u2 ex s) (hf : Fr w g v1 v2 wr u1 u2) (hE : u1.ownBlock ≠ some E ∧ u2.ownBlock ≠ some E) (hK : ∀ p, p ∈ K → u1.ownBlock ≠ some p.1 ∧ u2.ownBlock ≠ some p.1) (hA : ∀ ad, A = some ad → u1.ownBlock ≠ some ad.block ∧ u2.ownBlock ≠ some ad.block)
    (hf2 : Fr wr g u1 u2 w' x1 x2) (hs' : SrAt w' N g x1 x2 ex s') : RK w w' N g E v1 v2 ex s' names A c ids e K := by
  obtain ⟨_, ⟨t, b⟩, k, eg, ⟨r, rc, rl, rf⟩, ag, n⟩ := h
  refine ⟨⟨x1, x2, hs', hf.trans hf2, hf2.away (blk_lt b) hE.1 hE.2, fun p hp => hf2.away (blk_lt (k p hp).1) (hK p hp).1 (hK p hp).2, fun ad ha => hf2.away (ag ad ha).2 (hA ad ha).1 (hA ad ha).2⟩, ⟨t, (hf2.block _ (blk_lt b) eg.1 hE.1 hE.2).trans b⟩,
    fun p hp => ⟨(hf2.block _ (blk_lt (k p hp).1) (k p hp).2.1 (hK p hp).1 (hK p hp).2).trans (k p hp).1, (k p hp).2⟩, eg, ⟨?_, rc, rl, rf⟩, fun ad ha => ⟨(ag ad ha).1, Nat.lt_of_lt_of_le (ag ad ha).2 hf2.size⟩, Nat.le_trans n hf2.size⟩
  refine Kd.C_foot_neS (S := fun k => k = g ∨ u1.ownBlock = some k ∨ u2.ownBlock = some k) (fun h => h) r (fun ad ha _ hS => ?_) w' ⟨hf2.size, fun i hi hn => hf2.block i hi (fun q => hn (.inl q)) (fun q => hn (.inr (.inl q))) (fun q => hn (.inr (.inr q)))⟩
  rcases hS with q | q | q
  · exact (ag ad ha).1 q
  · exact (hA ad ha).1 q
  · exact (hA ad ha).2 q
theorem RK.start (h : SrAt w N g v1 v2 ex s) (hN : N ≤ w.heap.size) (hsc : Scp w names A c ids e) (hA : ∀ ad, A = some ad → ad.block ≠ g ∧ ad.block < w.heap.size ∧ v1.ownBlock ≠ some ad.block ∧ v2.ownBlock ≠ some ad.block) (t : TypeId) :
    RK w (w.alloc (.cells #[.string (B names), .slice A ids.length c] t)) N g w.heap.size v1 v2 ex s names A c ids e [] := by
  have hb : Below w.heap.size w (w.alloc (.cells #[.string (B names), .slice A ids.length c] t)) := (Below.refl _ _).alloc (Nat.le_refl _) _
  refine ⟨⟨v1, v2, h.alloc _, Fr.alloc _ _ _ _ _, ⟨fun q => by have := (h.r1.own q).2; omega, fun q => by have := (h.r2.own q).2; omega⟩, fun p hp => (by cases hp), fun ad ha => (hA ad ha).2.2⟩, ⟨t, heap_alloc_new w _⟩, fun p hp => (by cases hp), ⟨by have := h.gl; omega, Nat.le_refl _⟩, ⟨Kd.C_below hsc.row hb, hsc.cap, hsc.len, hsc.fnd⟩, fun ad ha => ⟨(hA ad ha).1, by have := (hA ad ha).2.1; simp; omega⟩, by simp; omega⟩
theorem RK.with_ (h : RK w wr N g E v1 v2 ex s names A c ids e K) (hb : Below wr.heap.size wr w') {v : Value} {b : UInt8} {x : Nat} (hv : Kd.R (Kd.int .i64) 3 w' wr.heap.size (fun _ => True) v ((x : Int) :: ids)) :
    ∃ A' c', v = .slice (some A') (ids.length + 1) c' ∧ RK w ((w'.setCell ⟨E, 0, none⟩ (.string (B (b :: names)))).setCell ⟨E, 1, none⟩ v) N g E v1 v2 ex s (b :: names) (some A') c' ((x : Int) :: ids) (fun d => if d = b then x else e d) K := by
  obtain ⟨⟨u1, u2, a1, a2, a3, a4, a5⟩, ⟨t, bx⟩, k, eg, ⟨r, rc, rl, rf⟩, ag, n⟩ := h
  obtain ⟨q, cq, rfl, hqb, hql, cells, hqc⟩ := Kd.R_form hv (by simp)
  have hEl : E < wr.heap.size := blk_lt bx
  have hgl := a1.gl
  have hrd := Kd.R_reads' hv
  have hbs := hb.size
  have hu1 : u1.ownBlock ≠ some q := fun z => by have := (a1.r1.own z).2; omega
  have hu2 : u2.ownBlock ≠ some q := fun z => by have := (a1.r2.own z).2; omega
  have hf : ∀ b', b' ≠ E → ((w'.setCell ⟨E, 0, none⟩ (.string (B (b :: names)))).setCell ⟨E, 1, none⟩ (.slice (some ⟨q, 0, none⟩) ((x : Int) :: ids).length cq)).heap[b']? = w'.heap[b']? := fun b' hb' => (Below.heap_setCell _ _ _ b' (by simpa using hb')).trans (Below.heap_setCell _ _ _ b' (by simpa using hb'))
  have hsz : ((w'.setCell ⟨E, 0, none⟩ (.string (B (b :: names)))).setCell ⟨E, 1, none⟩ (.slice (some ⟨q, 0, none⟩) ((x : Int) :: ids).length cq)).heap.size = w'.heap.size := by simp [World.setCell]
  refine ⟨⟨q, 0, none⟩, cq, rfl, ⟨⟨u1, u2, ((a1.below hb).far eg.1 a3.1 a3.2 _ _).far eg.1 a3.1 a3.2 _ _, ((a2.grow hb).put eg.2 _ _).put eg.2 _ _, a3, a4, fun ad ha => by injection ha with ha; subst ha; exact ⟨hu1, hu2⟩⟩, ⟨t, ?_⟩, fun p hp => ⟨(hf _ (k p hp).2.2).trans (blk_below (k p hp).1 hb), (k p hp).2⟩, eg, ⟨?_, by have := hrd.2.1; simpa using this, by simp [rl], fun d => ?_⟩, fun ad ha => by injection ha with ha; subst ha; exact ⟨by simp; omega, by rw [hsz]; exact hql⟩, by rw [hsz]; omega⟩⟩
  · have h1 := blk_put (cs' := #[.string (B (b :: names)), .slice A ids.length c]) (blk_below bx hb) 0 (.string (B (b :: names))) rfl
    exact blk_put (cs' := #[.string (B (b :: names)), .slice (some ⟨q, 0, none⟩) ((x : Int) :: ids).length cq]) h1 1 _ rfl
  · refine Kd.C_foot_neS (S := fun k => k = E) (fun h => h) hrd.2.2 (fun ad ha _ hS => ?_) _ ⟨by rw [hsz]; exact Nat.le_refl _, fun i hi hn => hf i hn⟩
    injection ha with ha
    subst ha
    simp at hS; omega
  · simp only [fnd]
    by_cases hd : b = d
    · rw [if_pos hd, if_pos hd.symm]
    · rw [if_neg hd, if_neg (fun z => hd z.symm)]; exact rf d
end
end Go.Proofs.YtjgfgjhaghbehaaGreat.Rf
namespace Go.Proofs.YtjgfgjhaghbehaaGreat.Rf
open Go.RowKit Go.Proofs.YtjgfgjhaghbehaaGreatW.PrintWords Go.Proofs.YtjgfgjhaghbehaaGreatW.PrintLast Go.Proofs.YtjgfgjhaghbehaaGreatW.PrintMore Go.Proofs.YtjgfgjhaghbehaaGreat.Pfind Go.Proofs.YtjgfgjhaghbehaaGreat.Pwith Go.Proofs.YtjgfgjhaghbehaaGreat.PsoPlace
set_option linter.unusedVariables false
set_option linter.unusedSimpArgs false

theorem below_dd (w : World) : Below w.heap.size w w.drew := ⟨rfl, rfl, rfl, Nat.le_refl _, fun _ _ => rfl⟩
theorem byte_is {l : List UInt8} {i : Nat} {c : UInt8} (h : l[i]? = some c) : ∀ hh : i < (B l).size, (((B l)[i]'hh).toNat : Int) = vl c := by
  intro hh
  have hi : i < l.length := by rw [B_size] at hh; exact hh
  rw [byte_of l i hi hh]
  rw [List.getElem?_eq_getElem hi] at h
  injection h with h
  rw [h]
theorem head_bytes {t : Tm} (h : Wf isLet t) : ((t.kind = 33 ∨ t.kind = 63) → t.text[0]? = some t.na ∧ t.text[2]? = some t.nb ∧ 4 ≤ t.text.length) ∧ (t.kind = 61 → t.text[1]? = some t.na ∧ t.text[3]? = some t.nb ∧ 5 ≤ t.text.length) ∧ (t.kind = 35 → t.text[1]? = some t.nb ∧ 3 ≤ t.text.length) := by
  cases t with
  | leaf k x y => obtain ⟨rfl, _⟩ := h; exact ⟨by simp [Tm.kind], by simp [Tm.kind], by simp [Tm.kind]⟩
  | un k x y t =>
    refine ⟨fun hk => ?_, fun hk => ?_, fun hk => ?_⟩
    · simp only [Tm.kind] at hk
      rcases hk with rfl | rfl <;> exact ⟨rfl, rfl, by simp [Tm.text]⟩
    · simp only [Tm.kind] at hk
      subst hk
      exact ⟨rfl, rfl, by simp [Tm.text]⟩
    · simp only [Tm.kind] at hk
      subst hk
      exact ⟨rfl, by simp [Tm.text]⟩
  | bin k x y t u => rcases h.1 with rfl | rfl <;> exact ⟨by simp [Tm.kind], by simp [Tm.kind], by simp [Tm.kind]⟩
theorem kid_tl (t : Tm) (i : Nat) (h : i < t.kids.length) : t.kids[i].text.length ≤ t.text.length := by
  cases t with
  | leaf => simp [Tm.kids] at h
  | un => simp [Tm.kids] at h; subst h; simp [Tm.kids, Tm.text]
  | bin => simp [Tm.kids] at h; rcases (by omega : i = 0 ∨ i = 1) with rfl | rfl <;> simp [Tm.kids, Tm.text] <;> omega
section
variable {w wr w' : World} {N g E c : Nat} {v1 v2 u1 u2 x1 x2 : Value} {ex : List Value} {s s' : Srt} {names : List UInt8} {A : Option Addr} {ids : List Int} {e : UInt8 → Nat} {K : List (Nat × Obj)}
theorem RK.more (h : RK w wr N g E v1 v2 ex s names A c ids e []) (hb : Below wr.heap.size wr w') (hK : ∀ p, p ∈ K → w'.heap[p.1]? = some p.2 ∧ wr.heap.size ≤ p.1) : RK w w' N g E v1 v2 ex s names A c ids e K := by
  have hE : E < wr.heap.size := by obtain ⟨t, b⟩ := h.box; exact blk_lt b
  obtain ⟨⟨y1, y2, z1, z2, z3, _, z5⟩, ⟨t, b⟩, _, eg, ⟨r, rc, rl, rf⟩, ag, n⟩ := h
  have hg := z1.gl
  exact ⟨⟨y1, y2, z1.below hb, z2.grow hb, z3, fun p hp => ⟨fun q => by have := (z1.r1.own q).2; have := (hK p hp).2; omega, fun q => by have := (z1.r2.own q).2; have := (hK p hp).2; omega⟩, z5⟩, ⟨t, blk_below b hb⟩, fun p hp => ⟨(hK p hp).1, by have := (hK p hp).2; omega, by have := (hK p hp).2; omega⟩, eg, ⟨Kd.C_below r hb, rc, rl, rf⟩, fun ad ha => ⟨(ag ad ha).1, Nat.lt_of_lt_of_le (ag ad ha).2 hb.size⟩, Nat.le_trans n hb.size⟩
end
theorem parts_row {w3 : World} {base cp sT : Nat} {ok : Nat → Prop} {A : Option Addr} {n : Nat} {l : List Tm} (R : Kd.R Kd.string sT w3 base ok (.slice A n cp) (l.map fun u => B u.text)) :
    ∃ K : List (Nat × Obj), (∀ p, p ∈ K → w3.heap[p.1]? = some p.2 ∧ base ≤ p.1) ∧ ∀ wr : World, (∀ p, p ∈ K → wr.heap[p.1]? = some p.2) → ∀ j, (hj : j < l.length) → ∃ gp, A = some ⟨gp, 0, none⟩ ∧ wr.cell? ⟨gp, j, none⟩ = some (.string (B l[j].text)) := by
  by_cases hl : l.length = 0
  · exact ⟨[], fun p hp => (by cases hp), fun wr _ j hj => (by omega)⟩
  · obtain ⟨gp, cap, he, hgb, hgl, cells, hcs⟩ := Kd.R_form R (by rw [List.length_map]; omega)
    have hn := (Kd.R_reads' R).1
    injection he with he1 he2 he3
    subst he1 he3 he2
    refine ⟨[(gp, .cells cells sT (0, 0))], fun p hp => by rw [List.mem_singleton.mp hp]; exact ⟨hcs, hgb⟩, fun wr hwr j hj => ⟨gp, rfl, ?_⟩⟩
    have hcs2 := hwr (gp, .cells cells sT (0, 0)) (by simp)
    have hcell := (Kd.R_cell ByteArray.empty R (j : Int) (by omega) (by rw [List.length_map]; omega)).1
    rw [Int.toNat_natCast, blk_cell hcs j] at hcell
    have hrd : rdOf ByteArray.empty (l.map fun u => B u.text) (j : Int) = B l[j].text := by
      unfold rdOf; simp [List.getD, List.getElem?_eq_getElem hj]
    rw [hrd] at hcell
    rw [blk_cell hcs2 j]; exact hcell
def RwUpto (n : Nat) : Prop := ∀ (t : Tm) (e : UInt8 → Nat) (s : Srt) (w : World) (N g : Nat) (v1 v2 : Value) (ex : List Value) (names : List UInt8) (A : Option Addr) (c : Nat) (ids : List Int), t.size ≤ n → n ≤ 1000 → Wf isLet t → t.text.length ≤ 1000 → N ≤ w.heap.size → SrAt w N g v1 v2 ex s → s.Ok → Srt.Sc t.fr e s → s.n + t.size ≤ 1000 → names.length + t.size ≤ 1000 → Scp w names A c ids e →
    (∀ ad, A = some ad → ad.block ≠ g ∧ ad.block < w.heap.size ∧ v1.ownBlock ≠ some ad.block ∧ v2.ownBlock ≠ some ad.block) →
    Calls Tryz.prog 62 #[.pointer (some ⟨g, 0, none⟩), .string (B t.text), .agg #[.string (B names), .slice A ids.length c]] w fun e' w' => e' = .returned (.tuple #[]) ∧ ∃ u1 u2, SrAt w' N g u1 u2 ex (Srt.walk t e s) ∧ Fr w g v1 v2 w' u1 u2
def rwalk_.T3 : Bool × List (List Nat × List Nat) := (true, [([], []), ([], []), ([], []), ([2], [2]), ([1, 3], [1, 3]), ([], []), ([], []), ([6], [6]), ([5, 7, 4], [5, 7]), ([0, 4, 8, 8], [0, 4, 8])])
def rwalk_.B3 : List Nat := [0, 0, 0, 4, 14, 0, 0, 64, 254, 511]
theorem rwalk_.tab3 : rtab .any (opsOf Tryz.f62 3) = rwalk_.T3 := by kernel_rfl
theorem rwalk_.bits3 : waitsOk rwalk_.T3.2 rwalk_.B3 = true := by kernel_rfl
def rwalk_.T6 : Bool × List (List Nat × List Nat) := (true, [([], []), ([], []), ([], []), ([2], [2]), ([1, 3], [1, 3]), ([], []), ([0, 4, 5, 4], [0, 4, 5])])
def rwalk_.B6 : List Nat := [0, 0, 0, 4, 14, 0, 63]
theorem rwalk_.tab6 : rtab .any (opsOf Tryz.f62 6) = rwalk_.T6 := by kernel_rfl
theorem rwalk_.bits6 : waitsOk rwalk_.T6.2 rwalk_.B6 = true := by kernel_rfl
def rwalk_.T7 : Bool × List (List Nat × List Nat) := (true, [([], []), ([], []), ([1], [1]), ([], []), ([0, 2, 3], [0, 2, 3]), ([4, 4, 0, 1, 2, 3, 4], [4])])
def rwalk_.B7 : List Nat := [0, 0, 2, 0, 15, 31]
theorem rwalk_.tab7 : rtab .any (opsOf Tryz.f62 7) = rwalk_.T7 := by kernel_rfl
theorem rwalk_.bits7 : waitsOk rwalk_.T7.2 rwalk_.B7 = true := by kernel_rfl
def rwalk_.T9 : Bool × List (List Nat × List Nat) := (true, [([], []), ([], []), ([1], [1]), ([], []), ([3], [3]), ([0, 2, 4, 4], [0, 2, 4]), ([5, 5, 0, 1, 2, 3, 4, 5], [5])])
def rwalk_.B9 : List Nat := [0, 0, 2, 0, 8, 31, 63]
theorem rwalk_.tab9 : rtab .any (opsOf Tryz.f62 9) = rwalk_.T9 := by kernel_rfl
theorem rwalk_.bits9 : waitsOk rwalk_.T9.2 rwalk_.B9 = true := by kernel_rfl
def rwalk_.T11 : Bool × List (List Nat × List Nat) := (true, [([], []), ([], []), ([], []), ([2], [2]), ([1, 3], [1, 3]), ([], []), ([], []), ([6], [6]), ([5, 7, 4], [5, 7]), ([0, 4, 8, 8], [0, 4, 8])])
def rwalk_.B11 : List Nat := [0, 0, 0, 4, 14, 0, 0, 64, 254, 511]
theorem rwalk_.tab11 : rtab .any (opsOf Tryz.f62 11) = rwalk_.T11 := by kernel_rfl
theorem rwalk_.bits11 : waitsOk rwalk_.T11.2 rwalk_.B11 = true := by kernel_rfl
set_option maxHeartbeats 8000000 in
set_option maxRecDepth 100000 in
theorem rwalk_any (n : Nat) : RwUpto n := by
  induction n with
  | zero => intro t e s w N g v1 v2 ex names A c ids h; have := t.size_pos; omega
  | succ n ih =>
    intro t e s w N g v1 v2 ex names A c ids hs hn hw htl hN hsr hok hsc hbd hnm hscp hap
    have hwn := Wf.names (fun c => let_name) hw
    have hz : (B t.text).size = t.text.length := B_size _
    have hkl : t.kids.length ≤ 2 := by cases t <;> simp [Tm.kids]
    have hkd := kind_text (k := 3000) hwn (by omega) (by omega)
    have hpt := parts_text (k := 3000) hwn (by omega) (by omega)
    have HW := Lib.hid hw
    have HS := Lib.hid hsr
    have HO := Lib.hid hok
    have HSC := Lib.hid hsc
    have HN := Lib.hid hN
    have HSP := Lib.hid hscp
    have HAP := Lib.hid hap
    have HM : Hid (s.n ≤ 1000) := by show _ ≤ _; omega
    have hszk := sizes_kids t
    have HBD : Hid (s.n + 1 + sizes t.kids ≤ 1000) := by show _ ≤ _; omega
    have HNM : Hid (names.length + 1 + sizes t.kids ≤ 1000) := by show _ ≤ _; omega
    have HFD : Hid (∀ d, spec_soScope_find.f 1000002 (B names) ids (vl d) = some ((e d : Nat) : Int)) := fun d => by rw [find_f names ids d hscp.len (by omega), hscp.fnd d]
    have HLN : Hid (names.length = ids.length) := hscp.len
    have q33 := eq_vl (x := t.kind) 33
    have q61 := eq_vl (x := t.kind) 61
    have q63 := eq_vl (x := t.kind) 63
    have q35 := eq_vl (x := t.kind) 35
    have p1 : vl 33 = 33 := rfl
    have p2 : vl 61 = 61 := rfl
    have p3 : vl 63 = 63 := rfl
    have p4 : vl 35 = 35 := rfl
    rw [p1] at q33
    rw [p2] at q61
    rw [p3] at q63
    rw [p4] at q35
    have HCASE := Lib.hid (Srt.walk_kids hw e s)
    have HHB := Lib.hid (head_bytes hw)
    clear hw hsr hok hsc hN hscp hap p1 p2 p3 p4 hwn hbd hnm hszk
    rcases HCASE.out with ⟨hkd2, a1, a2, hv⟩ | ⟨hkd2, a1, a2, hv⟩ | ⟨hkd2, a1, a2, hv⟩ | ⟨hkd2, a1, a2, hv⟩ | ⟨k1, k2, k3, k4, a1, a2, hv⟩
    · have HV := Lib.hid hv
      rw [decide_eq_true hkd2] at q33
      have e1 : e t.na < s.n := HSC.out _ (na_fr HW.out (.inl hkd2))
      have e2 : e t.nb < s.n := HSC.out _ (nb_fr HW.out (.inl hkd2))
      have HB : Hid (e t.na < s.n ∧ e t.nb < s.n) := ⟨e1, e2⟩
      have H1 : Hid (s.carry (e t.na) (e t.nb)).Ok := HO.out.carry e1 e2
      have H2 : Hid (∀ u, u ∈ t.kids → Srt.Sc u.fr e (s.carry (e t.na) (e t.nb))) := sc_plain HW.out ⟨by rw [hkd2]; decide, by rw [hkd2]; decide⟩ HSC.out (by rw [Srt.carry_n]; omega)
      have H3 : Hid ((s.carry (e t.na) (e t.nb)).n + sizes t.kids ≤ 1000) := by show _ ≤ _; rw [Srt.carry_n]; have := HBD.out; omega
      have H4 : Hid (names.length + sizes t.kids ≤ 1000) := by show _ ≤ _; have := HNM.out; omega
      have HF : Hid (_ ∧ _) := ⟨HFD.out t.na, HFD.out t.nb⟩
      obtain ⟨g0, g2, gl⟩ := HHB.out.1 (.inl hkd2)
      have b0 := byte_is g0
      have b2 := byte_is g2
      have l0 : 0 < t.text.length := by omega
      have l2 : (2 : Int) < (t.text.length : Int) := by omega
      clear g0 g2 hkd2 hv a1 a2 q61 q63 q35 HCASE e1 e2
      go_enter Tryz.func62, Tryz.ntmps62
      go_upto_region 1 with fail
      obtain ⟨W2, hW2⟩ : ∃ W2, W2 = w.alloc (.cells #[.string (B names), .slice A ids.length c] 92) := ⟨_, rfl⟩
      rw [← hW2]
      have T : RK w W2 N g w.heap.size v1 v2 ex s names A c ids e [] := by rw [hW2]; exact RK.start HS.out HN.out HSP.out HAP.out _
      clear hW2
      go_wp2_with fail
      refine (spec_tmKind.calls 3000 (B t.text) _ _ hkd).mono ?_
      rintro e' WA ⟨rfl, hd1⟩
      replace T := T.below hd1.below
      clear hd1 hkd
      go_wp2_with fail
      refine start_ (n := 10) (S := fun w' => w'.cell? ⟨w.heap.size, 0, none⟩ = some (.string (B names)) ∧ w'.cell? ⟨w.heap.size, 1, none⟩ = some (.slice A ids.length c)) (ds := []) #[false, false, false, false, false, false, false, false, false, false] (by kernel_rfl) rfl rfl ⟨T.cells.1, T.cells.2.1⟩ (fun hHeld => ?_)
      refine with_tabW rwalk_.tab3 rwalk_.bits3 (fun HT_ HW_ => ?_)
      replace T := T.below (below_dd _)
      generalize WA.drew = W at T hHeld ⊢
      refine pure_ (i := 0) (N := some 13) (v := ?_) (a' := ?_) #[true, false, false, false, false, false, false, false, false, false] rfl rfl (any_of HT_.out (by kernel_rfl)) (fun _ _ _ h => h) (Or.inl ⟨by rfl, ?_⟩) ?_ ?_
      rotate_left; (intro w'; go_simp; with_reducible rfl); rotate_left; (simp only [Act.put, List.setIfInBounds_toArray, List.set_cons_zero, List.set_cons_succ, i64_w, i32_w]; rfl)
      refine pure_ (i := 2) (N := some 15) (v := ?_) (a' := ?_) #[true, false, true, false, false, false, false, false, false, false] rfl rfl (any_of HT_.out (by kernel_rfl)) (fun _ _ _ h => h) (Or.inl ⟨by rfl, ?_⟩) ?_ ?_
      rotate_left; (intro w'; go_simp; with_reducible rfl); rotate_left; (simp only [Act.put, List.setIfInBounds_toArray, List.set_cons_zero, List.set_cons_succ, i64_w, i32_w]; rfl)
      refine pure_ (i := 6) (N := some 19) (v := ?_) (a' := ?_) #[true, false, true, false, false, false, true, false, false, false] rfl rfl (any_of HT_.out (by kernel_rfl)) (fun _ _ _ h => h) (Or.inl ⟨by rfl, ?_⟩) ?_ ?_
      rotate_left; (intro w'; go_simp; with_reducible rfl); rotate_left; (simp only [Act.put, List.setIfInBounds_toArray, List.set_cons_zero, List.set_cons_succ, i64_w, i32_w]; rfl)
      refine take_ (i := 1) (N := some 14) (v := ?_) (a' := ?_) #[true, true, true, false, false, false, true, false, false, false] rfl rfl (take_ofW HT_.out HW_.out (by kernel_rfl)) (fun _ _ _ h => h) (Or.inl ⟨by rfl, ?_⟩) hHeld ?_ ?_
      rotate_left; (rintro w' ⟨s0, s1⟩; go_simp; with_reducible rfl); rotate_left; (simp only [Act.put, List.setIfInBounds_toArray, List.set_cons_zero, List.set_cons_succ, i64_w, i32_w]; rfl)
      refine take_ (i := 3) (N := some 16) (v := ?_) (a' := ?_) #[true, true, true, true, false, false, true, false, false, false] rfl rfl (take_ofW HT_.out HW_.out (by kernel_rfl)) (fun _ _ _ h => h) (Or.inl ⟨by rfl, ?_⟩) hHeld ?_ ?_
      rotate_left; (rintro w' ⟨s0, s1⟩; go_simp; with_reducible rfl); rotate_left; (simp only [Act.put, List.setIfInBounds_toArray, List.set_cons_zero, List.set_cons_succ, i64_w, i32_w]; rfl)
      refine take_ (i := 5) (N := some 18) (v := ?_) (a' := ?_) #[true, true, true, true, false, true, true, false, false, false] rfl rfl (take_ofW HT_.out HW_.out (by kernel_rfl)) (fun _ _ _ h => h) (Or.inl ⟨by rfl, ?_⟩) hHeld ?_ ?_
      rotate_left; (rintro w' ⟨s0, s1⟩; go_simp; with_reducible rfl); rotate_left; (simp only [Act.put, List.setIfInBounds_toArray, List.set_cons_zero, List.set_cons_succ, i64_w, i32_w]; rfl)
      refine take_ (i := 7) (N := some 20) (v := ?_) (a' := ?_) #[true, true, true, true, false, true, true, true, false, false] rfl rfl (take_ofW HT_.out HW_.out (by kernel_rfl)) (fun _ _ _ h => h) (Or.inl ⟨by rfl, ?_⟩) hHeld ?_ ?_
      rotate_left; (rintro w' ⟨s0, s1⟩; go_simp; with_reducible rfl); rotate_left; (simp only [Act.put, List.setIfInBounds_toArray, List.set_cons_zero, List.set_cons_succ, i64_w, i32_w]; rfl)
      refine one_ (i := 4) (N := some 17) #[true, true, true, true, true, true, true, true, false, false] rfl rfl (one_of HT_.out (by kernel_rfl)) (by decide) (fun K hK => ?_)
      refine goes_ Tryz.func90 (by kernel_rfl) rfl #[.agg #[.string (B names), .slice A ids.length c], .int .u8 (vl t.na)] (by rfl) rfl rfl (by simp only [List.map_toArray, List.map_cons, List.map_nil]; rfl) ?_
      with_reducible refine (spec_soScope_find.calls 1000002 (B names) A c ids (vl t.na) _ _ T.sc.row T.sc.cap HF.out.1).mono ?_
      rintro e' W' ⟨rfl, hb⟩
      refine ⟨_, rfl, ?_⟩
      replace T := T.below hb
      clear hb hHeld
      refine hK.out _ _ ⟨T.cells.1, T.cells.2.1⟩ (fun hHeld => ?_)
      clear hK K
      refine norm_ (a' := ?_) ?_ ?_
      rotate_left
      · show Act.put _ (some 17) _ = _
        simp only [Act.put, List.setIfInBounds_toArray, List.set_cons_zero, List.set_cons_succ, i64_w, i32_w]
        rfl
      refine one_ (i := 8) (N := some 21) #[true, true, true, true, true, true, true, true, true, false] rfl rfl (one_of HT_.out (by kernel_rfl)) (by decide) (fun K hK => ?_)
      refine goes_ Tryz.func90 (by kernel_rfl) rfl #[.agg #[.string (B names), .slice A ids.length c], .int .u8 (vl t.nb)] (by rfl) rfl rfl (by simp only [List.map_toArray, List.map_cons, List.map_nil]; rfl) ?_
      with_reducible refine (spec_soScope_find.calls 1000002 (B names) A c ids (vl t.nb) _ _ T.sc.row T.sc.cap HF.out.2).mono ?_
      rintro e' W' ⟨rfl, hb⟩
      refine ⟨_, rfl, ?_⟩
      replace T := T.below hb
      clear hb hHeld
      refine hK.out _ _ ⟨T.cells.1, T.cells.2.1⟩ (fun hHeld => ?_)
      clear hK K
      refine norm_ (a' := ?_) ?_ ?_
      rotate_left
      · show Act.put _ (some 21) _ = _
        simp only [Act.put, List.setIfInBounds_toArray, List.set_cons_zero, List.set_cons_succ, i64_w, i32_w]
        rfl
      refine one_ (i := 9) (N := some 22) #[true, true, true, true, true, true, true, true, true, true] rfl rfl (one_of HT_.out (by kernel_rfl)) (by decide) (fun K hK => ?_)
      obtain ⟨u1, u2, hs, hf2, hE, hK, hA⟩ := T.sr
      refine goes_ Tryz.func89 (by kernel_rfl) rfl #[.pointer (some ⟨g, 0, none⟩), .int .i64 ((e t.na : Nat) : Int), .int .i64 ((e t.nb : Nat) : Int)] (by rfl) rfl rfl (by simp only [List.map_toArray, List.map_cons, List.map_nil]; rfl) ?_
      with_reducible refine (carry_calls hs HO.out HB.out.1 HB.out.2 (show s.n ≤ 1000000 by have := HM.out; omega)).mono ?_
      rintro e' W' ⟨rfl, S3, F3⟩
      refine ⟨_, rfl, ?_⟩
      replace T := T.step hs hf2 hE hK hA F3 S3
      clear S3 F3 hs hf2 hE hK hA hHeld
      refine hK.out _ _ ⟨T.cells.1, T.cells.2.1⟩ (fun hHeld => ?_)
      clear hK K
      refine norm_ (a' := ?_) ?_ ?_
      rotate_left
      · show Act.put _ (some 22) _ = _
        simp only [Act.put, List.setIfInBounds_toArray, List.set_cons_zero, List.set_cons_succ, i64_w, i32_w]
        rfl
      refine done_ (done_of HT_.out (by kernel_rfl)) ?_
      have HRR : Hid (∀ j, (Srt.walks (t.kids.take j) e (s.carry (e t.na) (e t.nb))).Ok ∧ ((s.carry (e t.na) (e t.nb))).n ≤ (Srt.walks (t.kids.take j) e (s.carry (e t.na) (e t.nb))).n ∧ (Srt.walks (t.kids.take j) e (s.carry (e t.na) (e t.nb))).n ≤ ((s.carry (e t.na) (e t.nb))).n + sizes (t.kids.take j)) := fun j => Srt.walks_ok e (t.kids.take j) (s.carry (e t.na) (e t.nb)) (fun u hu => kid_wf_mem HW.out (List.mem_of_mem_take hu)) H1.out (fun u hu => H2.out u (List.mem_of_mem_take hu))
      have HT := Lib.hid T
      clear T
      go_wp2_with fail
      refine (spec_tmParts.calls 3000 (B t.text) _ _ hpt).mono ?_
      rintro e' w3 ⟨v, rfl, R, hb3⟩
      obtain ⟨Ap, cp, rfl⟩ := Kd.R_slice R
      have hL : (t.kids.map fun u => B u.text).length = t.kids.length := by simp
      rw [hL] at R
      obtain ⟨K, hK1, hK2⟩ := parts_row R
      have HK2 := Lib.hid hK2
      have HT3 := Lib.hid (HT.out.more hb3 hK1)
      rw [hL]
      clear R hb3 hpt hK1 hK2 HT
      go_wp2_with fail
      go_loopw [62] (fun i wr => ∃ j : Nat, j ≤ t.kids.length ∧ i = .int .i64 j ∧ RK w wr N g w.heap.size v1 v2 ex (Srt.walks (t.kids.take j) e (s.carry (e t.na) (e t.nb))) names A c ids e K) (fun i _ => t.kids.length - (intOf i).toNat)
      case atStart => exact ⟨0, Nat.zero_le _, rfl, HT3.out⟩
      case round =>
        obtain ⟨j, hj, rfl, hr⟩ := hrel
        have HR := Lib.hid hr
        clear hr
        by_cases hlt : j < t.kids.length
        · obtain ⟨gp, rfl, hc⟩ := HK2.out wr (fun p hp => (HR.out.kp p hp).1) j hlt
          obtain ⟨k0, k1, z0, z1⟩ := HR.out.cells
          have h1 := Lib.hid (Srt.walks_take_succ t.kids e (s.carry (e t.na) (e t.nb)) j hlt)
          have h2 := kid_le t j hlt
          have h3 := sizes_take_succ t.kids j hlt
          have h4 := sizes_take_le t.kids (j + 1)
          have h5 := sizes_kids t
          have hlt4 : (j : Int) < (t.kids.length : Int) := by omega
          obtain ⟨u1, u2, hs, hf2, hE, hK, hA⟩ := HR.out.sr
          have HST : Hid (∀ W5 x1 x2 s', Fr wr g u1 u2 W5 x1 x2 → SrAt W5 N g x1 x2 ex s' → RK w W5 N g w.heap.size v1 v2 ex s' names A c ids e K) := fun W5 x1 x2 s' f5 s5 => HR.out.step hs hf2 hE hK hA f5 s5
          have hrec := ih t.kids[j] e (Srt.walks (t.kids.take j) e (s.carry (e t.na) (e t.nb))) wr N g u1 u2 ex names A c ids (by omega) (by omega) (kid_wf HW.out j hlt) (by have := kid_tl t j hlt; omega) HR.out.nle hs (HRR.out j).1 (fun c hc => by have := H2.out _ (List.getElem_mem hlt) c hc; have := (HRR.out j).2.1; omega) (by have := (HRR.out j).2.2; have := H3.out; omega) (by have := H4.out; omega) HR.out.sc (fun ad ha => ⟨(HR.out.ag ad ha).1, (HR.out.ag ad ha).2, hA ad ha⟩)
          clear h3 h4 h5 hs hf2 hE hK hA
          go_wp2_with fail
          refine hrec.mono ?_
          rintro e' W5 ⟨rfl, x1, x2, S5, F5⟩
          have HN5 : Hid (RK w W5 N g w.heap.size v1 v2 ex (Srt.walks (t.kids.take (j + 1)) e (s.carry (e t.na) (e t.nb))) names A c ids e K) := by
            rw [h1.out]
            exact HST.out _ _ _ _ F5 S5
          clear hrec S5 F5 hc HST k0 k1 z0 z1
          go_wp2_with fail
          go_roundw
          case rel => exact ⟨j + 1, by omega, by go_num, HN5.out⟩
          case measure => simp [intOf]; omega
        · have HFI := Lib.hid (congrArg (fun l => Srt.walks l e (s.carry (e t.na) (e t.nb))) (List.take_of_length_le (by omega : t.kids.length ≤ j)))
          go_wp2_with fail
          go_end0
          obtain ⟨x1, x2, S6, F6, _⟩ := HR.out.sr
          exact ⟨rfl, x1, x2, by rw [HV.out, ← HFI.out]; exact S6, F6⟩
    · have HV := Lib.hid hv
      rw [decide_eq_true hkd2] at q61
      rw [decide_eq_false (by rw [hkd2]; decide)] at q33
      rw [decide_eq_false (by rw [hkd2]; decide)] at q63
      rw [decide_eq_false (by rw [hkd2]; decide)] at q35
      have e1 : e t.na < s.n := HSC.out _ (na_fr HW.out (.inr (.inl hkd2)))
      have e2 : e t.nb < s.n := HSC.out _ (nb_fr HW.out (.inr hkd2))
      have HB : Hid (e t.na < s.n ∧ e t.nb < s.n) := ⟨e1, e2⟩
      have H1 : Hid (s.join (e t.na) (e t.nb)).Ok := HO.out.join e1 e2
      have H2 : Hid (∀ u, u ∈ t.kids → Srt.Sc u.fr e (s.join (e t.na) (e t.nb))) := sc_plain HW.out ⟨by rw [hkd2]; decide, by rw [hkd2]; decide⟩ HSC.out (by rw [Srt.join_n]; omega)
      have H3 : Hid ((s.join (e t.na) (e t.nb)).n + sizes t.kids ≤ 1000) := by show _ ≤ _; rw [Srt.join_n]; have := HBD.out; omega
      have H4 : Hid (names.length + sizes t.kids ≤ 1000) := by show _ ≤ _; have := HNM.out; omega
      have HF : Hid (_ ∧ _) := ⟨HFD.out t.na, HFD.out t.nb⟩
      obtain ⟨g1, g3, gl⟩ := HHB.out.2.1 hkd2
      have b1 := byte_is g1
      have b3 := byte_is g3
      have l1 : (1 : Int) < (t.text.length : Int) := by omega
      have l3 : (3 : Int) < (t.text.length : Int) := by omega
      clear g1 g3 hkd2 hv a1 a2 HCASE e1 e2
      go_enter Tryz.func62, Tryz.ntmps62
      go_upto_region 1 with fail
      obtain ⟨W2, hW2⟩ : ∃ W2, W2 = w.alloc (.cells #[.string (B names), .slice A ids.length c] 92) := ⟨_, rfl⟩
      rw [← hW2]
      have T : RK w W2 N g w.heap.size v1 v2 ex s names A c ids e [] := by rw [hW2]; exact RK.start HS.out HN.out HSP.out HAP.out _
      clear hW2
      go_wp2_with fail
      refine (spec_tmKind.calls 3000 (B t.text) _ _ hkd).mono ?_
      rintro e' WA ⟨rfl, hd1⟩
      replace T := T.below hd1.below
      clear hd1 hkd
      go_wp2_with fail
      refine start_ (n := 10) (S := fun w' => w'.cell? ⟨w.heap.size, 0, none⟩ = some (.string (B names)) ∧ w'.cell? ⟨w.heap.size, 1, none⟩ = some (.slice A ids.length c)) (ds := []) #[false, false, false, false, false, false, false, false, false, false] (by kernel_rfl) rfl rfl ⟨T.cells.1, T.cells.2.1⟩ (fun hHeld => ?_)
      refine with_tabW rwalk_.tab11 rwalk_.bits11 (fun HT_ HW_ => ?_)
      replace T := T.below (below_dd _)
      generalize WA.drew = W at T hHeld ⊢
      refine pure_ (i := 0) (N := some 49) (v := ?_) (a' := ?_) #[true, false, false, false, false, false, false, false, false, false] rfl rfl (any_of HT_.out (by kernel_rfl)) (fun _ _ _ h => h) (Or.inl ⟨by rfl, ?_⟩) ?_ ?_
      rotate_left; (intro w'; go_simp; with_reducible rfl); rotate_left; (simp only [Act.put, List.setIfInBounds_toArray, List.set_cons_zero, List.set_cons_succ, i64_w, i32_w]; rfl)
      refine pure_ (i := 2) (N := some 51) (v := ?_) (a' := ?_) #[true, false, true, false, false, false, false, false, false, false] rfl rfl (any_of HT_.out (by kernel_rfl)) (fun _ _ _ h => h) (Or.inl ⟨by rfl, ?_⟩) ?_ ?_
      rotate_left; (intro w'; go_simp; with_reducible rfl); rotate_left; (simp only [Act.put, List.setIfInBounds_toArray, List.set_cons_zero, List.set_cons_succ, i64_w, i32_w]; rfl)
      refine pure_ (i := 6) (N := some 55) (v := ?_) (a' := ?_) #[true, false, true, false, false, false, true, false, false, false] rfl rfl (any_of HT_.out (by kernel_rfl)) (fun _ _ _ h => h) (Or.inl ⟨by rfl, ?_⟩) ?_ ?_
      rotate_left; (intro w'; go_simp; with_reducible rfl); rotate_left; (simp only [Act.put, List.setIfInBounds_toArray, List.set_cons_zero, List.set_cons_succ, i64_w, i32_w]; rfl)
      refine take_ (i := 1) (N := some 50) (v := ?_) (a' := ?_) #[true, true, true, false, false, false, true, false, false, false] rfl rfl (take_ofW HT_.out HW_.out (by kernel_rfl)) (fun _ _ _ h => h) (Or.inl ⟨by rfl, ?_⟩) hHeld ?_ ?_
      rotate_left; (rintro w' ⟨s0, s1⟩; go_simp; with_reducible rfl); rotate_left; (simp only [Act.put, List.setIfInBounds_toArray, List.set_cons_zero, List.set_cons_succ, i64_w, i32_w]; rfl)
      refine take_ (i := 3) (N := some 52) (v := ?_) (a' := ?_) #[true, true, true, true, false, false, true, false, false, false] rfl rfl (take_ofW HT_.out HW_.out (by kernel_rfl)) (fun _ _ _ h => h) (Or.inl ⟨by rfl, ?_⟩) hHeld ?_ ?_
      rotate_left; (rintro w' ⟨s0, s1⟩; go_simp; with_reducible rfl); rotate_left; (simp only [Act.put, List.setIfInBounds_toArray, List.set_cons_zero, List.set_cons_succ, i64_w, i32_w]; rfl)
      refine take_ (i := 5) (N := some 54) (v := ?_) (a' := ?_) #[true, true, true, true, false, true, true, false, false, false] rfl rfl (take_ofW HT_.out HW_.out (by kernel_rfl)) (fun _ _ _ h => h) (Or.inl ⟨by rfl, ?_⟩) hHeld ?_ ?_
      rotate_left; (rintro w' ⟨s0, s1⟩; go_simp; with_reducible rfl); rotate_left; (simp only [Act.put, List.setIfInBounds_toArray, List.set_cons_zero, List.set_cons_succ, i64_w, i32_w]; rfl)
      refine take_ (i := 7) (N := some 56) (v := ?_) (a' := ?_) #[true, true, true, true, false, true, true, true, false, false] rfl rfl (take_ofW HT_.out HW_.out (by kernel_rfl)) (fun _ _ _ h => h) (Or.inl ⟨by rfl, ?_⟩) hHeld ?_ ?_
      rotate_left; (rintro w' ⟨s0, s1⟩; go_simp; with_reducible rfl); rotate_left; (simp only [Act.put, List.setIfInBounds_toArray, List.set_cons_zero, List.set_cons_succ, i64_w, i32_w]; rfl)
      refine one_ (i := 4) (N := some 53) #[true, true, true, true, true, true, true, true, false, false] rfl rfl (one_of HT_.out (by kernel_rfl)) (by decide) (fun K hK => ?_)
      refine goes_ Tryz.func90 (by kernel_rfl) rfl #[.agg #[.string (B names), .slice A ids.length c], .int .u8 (vl t.na)] (by rfl) rfl rfl (by simp only [List.map_toArray, List.map_cons, List.map_nil]; rfl) ?_
      with_reducible refine (spec_soScope_find.calls 1000002 (B names) A c ids (vl t.na) _ _ T.sc.row T.sc.cap HF.out.1).mono ?_
      rintro e' W' ⟨rfl, hb⟩
      refine ⟨_, rfl, ?_⟩
      replace T := T.below hb
      clear hb hHeld
      refine hK.out _ _ ⟨T.cells.1, T.cells.2.1⟩ (fun hHeld => ?_)
      clear hK K
      refine norm_ (a' := ?_) ?_ ?_
      rotate_left
      · show Act.put _ (some 53) _ = _
        simp only [Act.put, List.setIfInBounds_toArray, List.set_cons_zero, List.set_cons_succ, i64_w, i32_w]
        rfl
      refine one_ (i := 8) (N := some 57) #[true, true, true, true, true, true, true, true, true, false] rfl rfl (one_of HT_.out (by kernel_rfl)) (by decide) (fun K hK => ?_)
      refine goes_ Tryz.func90 (by kernel_rfl) rfl #[.agg #[.string (B names), .slice A ids.length c], .int .u8 (vl t.nb)] (by rfl) rfl rfl (by simp only [List.map_toArray, List.map_cons, List.map_nil]; rfl) ?_
      with_reducible refine (spec_soScope_find.calls 1000002 (B names) A c ids (vl t.nb) _ _ T.sc.row T.sc.cap HF.out.2).mono ?_
      rintro e' W' ⟨rfl, hb⟩
      refine ⟨_, rfl, ?_⟩
      replace T := T.below hb
      clear hb hHeld
      refine hK.out _ _ ⟨T.cells.1, T.cells.2.1⟩ (fun hHeld => ?_)
      clear hK K
      refine norm_ (a' := ?_) ?_ ?_
      rotate_left
      · show Act.put _ (some 57) _ = _
        simp only [Act.put, List.setIfInBounds_toArray, List.set_cons_zero, List.set_cons_succ, i64_w, i32_w]
        rfl
      refine one_ (i := 9) (N := some 58) #[true, true, true, true, true, true, true, true, true, true] rfl rfl (one_of HT_.out (by kernel_rfl)) (by decide) (fun K hK => ?_)
      obtain ⟨u1, u2, hs, hf2, hE, hK, hA⟩ := T.sr
      refine goes_ Tryz.func92 (by kernel_rfl) rfl #[.pointer (some ⟨g, 0, none⟩), .int .i64 ((e t.na : Nat) : Int), .int .i64 ((e t.nb : Nat) : Int)] (by rfl) rfl rfl (by simp only [List.map_toArray, List.map_cons, List.map_nil]; rfl) ?_
      with_reducible refine (join_calls hs HO.out HB.out.1 HB.out.2 (show s.n ≤ 1000000 by have := HM.out; omega)).mono ?_
      rintro e' W' ⟨rfl, S3, F3⟩
      refine ⟨_, rfl, ?_⟩
      replace T := T.step hs hf2 hE hK hA F3 S3
      clear S3 F3 hs hf2 hE hK hA hHeld
      refine hK.out _ _ ⟨T.cells.1, T.cells.2.1⟩ (fun hHeld => ?_)
      clear hK K
      refine norm_ (a' := ?_) ?_ ?_
      rotate_left
      · show Act.put _ (some 58) _ = _
        simp only [Act.put, List.setIfInBounds_toArray, List.set_cons_zero, List.set_cons_succ, i64_w, i32_w]
        rfl
      refine done_ (done_of HT_.out (by kernel_rfl)) ?_
      have HRR : Hid (∀ j, (Srt.walks (t.kids.take j) e (s.join (e t.na) (e t.nb))).Ok ∧ ((s.join (e t.na) (e t.nb))).n ≤ (Srt.walks (t.kids.take j) e (s.join (e t.na) (e t.nb))).n ∧ (Srt.walks (t.kids.take j) e (s.join (e t.na) (e t.nb))).n ≤ ((s.join (e t.na) (e t.nb))).n + sizes (t.kids.take j)) := fun j => Srt.walks_ok e (t.kids.take j) (s.join (e t.na) (e t.nb)) (fun u hu => kid_wf_mem HW.out (List.mem_of_mem_take hu)) H1.out (fun u hu => H2.out u (List.mem_of_mem_take hu))
      have HT := Lib.hid T
      clear T
      go_wp2_with fail
      refine (spec_tmParts.calls 3000 (B t.text) _ _ hpt).mono ?_
      rintro e' w3 ⟨v, rfl, R, hb3⟩
      obtain ⟨Ap, cp, rfl⟩ := Kd.R_slice R
      have hL : (t.kids.map fun u => B u.text).length = t.kids.length := by simp
      rw [hL] at R
      obtain ⟨K, hK1, hK2⟩ := parts_row R
      have HK2 := Lib.hid hK2
      have HT3 := Lib.hid (HT.out.more hb3 hK1)
      rw [hL]
      clear R hb3 hpt hK1 hK2 HT
      go_wp2_with fail
      go_loopw [62] (fun i wr => ∃ j : Nat, j ≤ t.kids.length ∧ i = .int .i64 j ∧ RK w wr N g w.heap.size v1 v2 ex (Srt.walks (t.kids.take j) e (s.join (e t.na) (e t.nb))) names A c ids e K) (fun i _ => t.kids.length - (intOf i).toNat)
      case atStart => exact ⟨0, Nat.zero_le _, rfl, HT3.out⟩
      case round =>
        obtain ⟨j, hj, rfl, hr⟩ := hrel
        have HR := Lib.hid hr
        clear hr
        by_cases hlt : j < t.kids.length
        · obtain ⟨gp, rfl, hc⟩ := HK2.out wr (fun p hp => (HR.out.kp p hp).1) j hlt
          obtain ⟨k0, k1, z0, z1⟩ := HR.out.cells
          have h1 := Lib.hid (Srt.walks_take_succ t.kids e (s.join (e t.na) (e t.nb)) j hlt)
          have h2 := kid_le t j hlt
          have h3 := sizes_take_succ t.kids j hlt
          have h4 := sizes_take_le t.kids (j + 1)
          have h5 := sizes_kids t
          have hlt4 : (j : Int) < (t.kids.length : Int) := by omega
          obtain ⟨u1, u2, hs, hf2, hE, hK, hA⟩ := HR.out.sr
          have HST : Hid (∀ W5 x1 x2 s', Fr wr g u1 u2 W5 x1 x2 → SrAt W5 N g x1 x2 ex s' → RK w W5 N g w.heap.size v1 v2 ex s' names A c ids e K) := fun W5 x1 x2 s' f5 s5 => HR.out.step hs hf2 hE hK hA f5 s5
          have hrec := ih t.kids[j] e (Srt.walks (t.kids.take j) e (s.join (e t.na) (e t.nb))) wr N g u1 u2 ex names A c ids (by omega) (by omega) (kid_wf HW.out j hlt) (by have := kid_tl t j hlt; omega) HR.out.nle hs (HRR.out j).1 (fun c hc => by have := H2.out _ (List.getElem_mem hlt) c hc; have := (HRR.out j).2.1; omega) (by have := (HRR.out j).2.2; have := H3.out; omega) (by have := H4.out; omega) HR.out.sc (fun ad ha => ⟨(HR.out.ag ad ha).1, (HR.out.ag ad ha).2, hA ad ha⟩)
          clear h3 h4 h5 hs hf2 hE hK hA
          go_wp2_with fail
          refine hrec.mono ?_
          rintro e' W5 ⟨rfl, x1, x2, S5, F5⟩
          have HN5 : Hid (RK w W5 N g w.heap.size v1 v2 ex (Srt.walks (t.kids.take (j + 1)) e (s.join (e t.na) (e t.nb))) names A c ids e K) := by
            rw [h1.out]
            exact HST.out _ _ _ _ F5 S5
          clear hrec S5 F5 hc HST k0 k1 z0 z1
          go_wp2_with fail
          go_roundw
          case rel => exact ⟨j + 1, by omega, by go_num, HN5.out⟩
          case measure => simp [intOf]; omega
        · have HFI := Lib.hid (congrArg (fun l => Srt.walks l e (s.join (e t.na) (e t.nb))) (List.take_of_length_le (by omega : t.kids.length ≤ j)))
          go_wp2_with fail
          go_end0
          obtain ⟨x1, x2, S6, F6, _⟩ := HR.out.sr
          exact ⟨rfl, x1, x2, by rw [HV.out, ← HFI.out]; exact S6, F6⟩
    · have HV := Lib.hid hv
      rw [decide_eq_true hkd2] at q63
      rw [decide_eq_false (by rw [hkd2]; decide)] at q33
      have e1 : e t.na < s.n := HSC.out _ (na_fr HW.out (.inr (.inr hkd2)))
      have HB : Hid (e t.na < s.n) := e1
      have H1 : Hid (s.fresh.carry (e t.na) s.n).Ok := HO.out.fresh.carry (show _ < s.n + 1 by omega) (show _ < s.n + 1 by omega)
      have H2 : Hid (∀ u, u ∈ t.kids → Srt.Sc u.fr (fun c => if c = t.nb then s.n else e c) (s.fresh.carry (e t.na) s.n)) := sc_bind HW.out (.inl hkd2) HSC.out (by rw [Srt.carry_n]; exact Nat.lt_succ_self _)
      have H3 : Hid ((s.fresh.carry (e t.na) s.n).n + sizes t.kids ≤ 1000) := by show _ ≤ _; rw [Srt.carry_n]; have := HBD.out; show s.n + 1 + _ ≤ _; omega
      have H4 : Hid ((t.nb :: names).length + sizes t.kids ≤ 1000) := by show _ ≤ _; have := HNM.out; simp only [List.length_cons]; omega
      have HF : Hid (_ ∧ _) := ⟨HFD.out t.na, HFD.out t.nb⟩
      have HWI : Hid (spec_soScope_with.f (B names) ids (vl t.nb) ((s.n : Nat) : Int) = some (B (t.nb :: names), ((s.n : Nat) : Int) :: ids)) := with_f names ids t.nb _ (by have := HNM.out; omega) (by have := HNM.out; have := HLN.out; omega)
      obtain ⟨g0, g2, gl⟩ := HHB.out.1 (.inr hkd2)
      have b0 := byte_is g0
      have b2 := byte_is g2
      have l0 : 0 < t.text.length := by omega
      have l2 : (2 : Int) < (t.text.length : Int) := by omega
      clear g0 g2 hkd2 hv a1 a2 q61 q35 HCASE e1
      go_enter Tryz.func62, Tryz.ntmps62
      go_upto_region 1 with fail
      obtain ⟨W2, hW2⟩ : ∃ W2, W2 = w.alloc (.cells #[.string (B names), .slice A ids.length c] 92) := ⟨_, rfl⟩
      rw [← hW2]
      have T : RK w W2 N g w.heap.size v1 v2 ex s names A c ids e [] := by rw [hW2]; exact RK.start HS.out HN.out HSP.out HAP.out _
      clear hW2
      go_wp2_with fail
      refine (spec_tmKind.calls 3000 (B t.text) _ _ hkd).mono ?_
      rintro e' WA ⟨rfl, hd1⟩
      replace T := T.below hd1.below
      clear hd1 hkd
      go_wp2_with fail
      obtain ⟨u1, u2, hs0, hf0, hE0, hK0, hA0⟩ := T.sr
      have HST0 : Hid (∀ W5 x1 x2 s', Fr WA g u1 u2 W5 x1 x2 → SrAt W5 N g x1 x2 ex s' → RK w W5 N g w.heap.size v1 v2 ex s' names A c ids e []) := fun W5 x1 x2 s' f5 s5 => T.step hs0 hf0 hE0 hK0 hA0 f5 s5
      have hfc := fresh_calls hs0 (show s.n ≤ 1000000 by have := HM.out; omega) T.nle
      clear T hs0 hf0 hE0 hK0 hA0
      refine hfc.mono ?_
      rintro e' WA ⟨y1, y2, rfl, S3, F3⟩
      have T := HST0.out _ _ _ _ F3 S3
      clear S3 F3 HST0 hfc
      have E1F : e t.na < s.fresh.n := Nat.lt_succ_of_lt HB.out
      have E2F : s.n < s.fresh.n := Nat.lt_succ_self _
      have E3F : s.fresh.n ≤ 1000000 := by have := HM.out; show s.n + 1 ≤ _; omega
      go_wp2_with fail
      refine start_ (n := 7) (S := fun w' => w'.cell? ⟨w.heap.size, 0, none⟩ = some (.string (B names)) ∧ w'.cell? ⟨w.heap.size, 1, none⟩ = some (.slice A ids.length c)) (ds := []) #[false, false, false, false, false, false, false] (by kernel_rfl) rfl rfl ⟨T.cells.1, T.cells.2.1⟩ (fun hHeld => ?_)
      refine with_tabW rwalk_.tab6 rwalk_.bits6 (fun HT_ HW_ => ?_)
      replace T := T.below (below_dd _)
      generalize WA.drew = W at T hHeld ⊢
      refine pure_ (i := 0) (N := some 27) (v := ?_) (a' := ?_) #[true, false, false, false, false, false, false] rfl rfl (any_of HT_.out (by kernel_rfl)) (fun _ _ _ h => h) (Or.inl ⟨by rfl, ?_⟩) ?_ ?_
      rotate_left; (intro w'; go_simp; with_reducible rfl); rotate_left; (simp only [Act.put, List.setIfInBounds_toArray, List.set_cons_zero, List.set_cons_succ, i64_w, i32_w]; rfl)
      refine pure_ (i := 2) (N := some 29) (v := ?_) (a' := ?_) #[true, false, true, false, false, false, false] rfl rfl (any_of HT_.out (by kernel_rfl)) (fun _ _ _ h => h) (Or.inl ⟨by rfl, ?_⟩) ?_ ?_
      rotate_left; (intro w'; go_simp; with_reducible rfl); rotate_left; (simp only [Act.put, List.setIfInBounds_toArray, List.set_cons_zero, List.set_cons_succ, i64_w, i32_w]; rfl)
      refine pure_ (i := 5) (N := some 32) (v := ?_) (a' := ?_) #[true, false, true, false, false, true, false] rfl rfl (any_of HT_.out (by kernel_rfl)) (fun _ _ _ h => h) (Or.inl ⟨by rfl, ?_⟩) ?_ ?_
      rotate_left; (intro w'; go_simp; with_reducible rfl); rotate_left; (simp only [Act.put, List.setIfInBounds_toArray, List.set_cons_zero, List.set_cons_succ, i64_w, i32_w]; rfl)
      refine take_ (i := 1) (N := some 28) (v := ?_) (a' := ?_) #[true, true, true, false, false, true, false] rfl rfl (take_ofW HT_.out HW_.out (by kernel_rfl)) (fun _ _ _ h => h) (Or.inl ⟨by rfl, ?_⟩) hHeld ?_ ?_
      rotate_left; (rintro w' ⟨s0, s1⟩; go_simp; with_reducible rfl); rotate_left; (simp only [Act.put, List.setIfInBounds_toArray, List.set_cons_zero, List.set_cons_succ, i64_w, i32_w]; rfl)
      refine take_ (i := 3) (N := some 30) (v := ?_) (a' := ?_) #[true, true, true, true, false, true, false] rfl rfl (take_ofW HT_.out HW_.out (by kernel_rfl)) (fun _ _ _ h => h) (Or.inl ⟨by rfl, ?_⟩) hHeld ?_ ?_
      rotate_left; (rintro w' ⟨s0, s1⟩; go_simp; with_reducible rfl); rotate_left; (simp only [Act.put, List.setIfInBounds_toArray, List.set_cons_zero, List.set_cons_succ, i64_w, i32_w]; rfl)
      refine one_ (i := 4) (N := some 31) #[true, true, true, true, true, true, false] rfl rfl (one_of HT_.out (by kernel_rfl)) (by decide) (fun K hK => ?_)
      refine goes_ Tryz.func90 (by kernel_rfl) rfl #[.agg #[.string (B names), .slice A ids.length c], .int .u8 (vl t.na)] (by rfl) rfl rfl (by simp only [List.map_toArray, List.map_cons, List.map_nil]; rfl) ?_
      with_reducible refine (spec_soScope_find.calls 1000002 (B names) A c ids (vl t.na) _ _ T.sc.row T.sc.cap HF.out.1).mono ?_
      rintro e' W' ⟨rfl, hb⟩
      refine ⟨_, rfl, ?_⟩
      replace T := T.below hb
      clear hb hHeld
      refine hK.out _ _ ⟨T.cells.1, T.cells.2.1⟩ (fun hHeld => ?_)
      clear hK K
      refine norm_ (a' := ?_) ?_ ?_
      rotate_left
      · show Act.put _ (some 31) _ = _
        simp only [Act.put, List.setIfInBounds_toArray, List.set_cons_zero, List.set_cons_succ, i64_w, i32_w]
        rfl
      refine one_ (i := 6) (N := some 33) #[true, true, true, true, true, true, true] rfl rfl (one_of HT_.out (by kernel_rfl)) (by decide) (fun K hK => ?_)
      obtain ⟨u1, u2, hs, hf2, hE, hK, hA⟩ := T.sr
      refine goes_ Tryz.func89 (by kernel_rfl) rfl #[.pointer (some ⟨g, 0, none⟩), .int .i64 ((e t.na : Nat) : Int), .int .i64 ((s.n : Nat) : Int)] (by rfl) rfl rfl (by simp only [List.map_toArray, List.map_cons, List.map_nil]; rfl) ?_
      with_reducible refine (carry_calls hs HO.out.fresh E1F E2F E3F).mono ?_
      rintro e' W' ⟨rfl, S3, F3⟩
      refine ⟨_, rfl, ?_⟩
      replace T := T.step hs hf2 hE hK hA F3 S3
      clear S3 F3 hs hf2 hE hK hA hHeld
      refine hK.out _ _ ⟨T.cells.1, T.cells.2.1⟩ (fun hHeld => ?_)
      clear hK K
      refine norm_ (a' := ?_) ?_ ?_
      rotate_left
      · show Act.put _ (some 33) _ = _
        simp only [Act.put, List.setIfInBounds_toArray, List.set_cons_zero, List.set_cons_succ, i64_w, i32_w]
        rfl
      refine done_ (done_of HT_.out (by kernel_rfl)) ?_
      go_wp2_with fail
      refine start_ (n := 6) (S := fun w' => w'.cell? ⟨w.heap.size, 0, none⟩ = some (.string (B names)) ∧ w'.cell? ⟨w.heap.size, 1, none⟩ = some (.slice A ids.length c)) (ds := [5]) #[false, false, false, false, false, false] (by kernel_rfl) rfl rfl ⟨T.cells.1, T.cells.2.1⟩ (fun hHeld => ?_)
      refine with_tabW rwalk_.tab7 rwalk_.bits7 (fun HT_ HW_ => ?_)
      replace T := T.below (below_dd _)
      generalize W'.drew = W at T hHeld ⊢
      refine pure_ (i := 1) (N := some 35) (v := ?_) (a' := ?_) #[false, true, false, false, false, false] rfl rfl (any_of HT_.out (by kernel_rfl)) (fun _ _ _ h => h) (Or.inl ⟨by rfl, ?_⟩) ?_ ?_
      rotate_left; (intro w'; go_simp; with_reducible rfl); rotate_left; (simp only [Act.put, List.setIfInBounds_toArray, List.set_cons_zero, List.set_cons_succ, i64_w, i32_w]; rfl)
      refine pure_ (i := 3) (N := some 37) (v := ?_) (a' := ?_) #[false, true, false, true, false, false] rfl rfl (any_of HT_.out (by kernel_rfl)) (fun _ _ _ h => h) (Or.inl ⟨by rfl, ?_⟩) ?_ ?_
      rotate_left; (intro w'; go_simp; with_reducible rfl); rotate_left; (simp only [Act.put, List.setIfInBounds_toArray, List.set_cons_zero, List.set_cons_succ, i64_w, i32_w]; rfl)
      refine take_ (i := 0) (N := some 34) (v := ?_) (a' := ?_) #[true, true, false, true, false, false] rfl rfl (take_ofW HT_.out HW_.out (by kernel_rfl)) (fun _ _ _ h => h) (Or.inl ⟨by rfl, ?_⟩) hHeld ?_ ?_
      rotate_left; (rintro w' ⟨s0, s1⟩; go_simp; with_reducible rfl); rotate_left; (simp only [Act.put, List.setIfInBounds_toArray, List.set_cons_zero, List.set_cons_succ, i64_w, i32_w]; rfl)
      refine take_ (i := 2) (N := some 36) (v := ?_) (a' := ?_) #[true, true, true, true, false, false] rfl rfl (take_ofW HT_.out HW_.out (by kernel_rfl)) (fun _ _ _ h => h) (Or.inl ⟨by rfl, ?_⟩) hHeld ?_ ?_
      rotate_left; (rintro w' ⟨s0, s1⟩; go_simp; with_reducible rfl); rotate_left; (simp only [Act.put, List.setIfInBounds_toArray, List.set_cons_zero, List.set_cons_succ, i64_w, i32_w]; rfl)
      refine one_ (i := 4) (N := some 38) #[true, true, true, true, true, false] rfl rfl (one_of HT_.out (by kernel_rfl)) (by decide) (fun K hK => ?_)
      refine goes_ Tryz.func91 (by kernel_rfl) rfl #[.agg #[.string (B names), .slice A ids.length c], .int .u8 (vl t.nb), .int .i64 ((s.n : Nat) : Int)] (by rfl) rfl rfl (by simp only [List.map_toArray, List.map_cons, List.map_nil]; rfl) ?_
      with_reducible refine (spec_soScope_with.calls (B names) A c ids (vl t.nb) ((s.n : Nat) : Int) _ _ _ T.sc.row T.sc.cap HWI.out).mono ?_
      rintro e' W' ⟨vv, rfl, hR, hb⟩
      refine ⟨_, rfl, ?_⟩
      have T4 := T.below hb
      obtain ⟨A', c', rfl, T5⟩ := T.with_ (b := t.nb) hb hR
      obtain ⟨k0, k1, z0, z1⟩ := T4.cells
      have HT5 := Lib.hid T5
      clear T T5 hR hb hHeld
      refine hK.out _ _ ⟨k0, k1⟩ (fun hHeld => ?_)
      clear hK K
      refine norm_ (a' := ?_) ?_ ?_
      rotate_left
      · show Act.put _ (some 38) _ = _
        simp only [Act.put, List.setIfInBounds_toArray, List.set_cons_zero, List.set_cons_succ, i64_w, i32_w]
        rfl
      refine last_ (i := 5) (N := none) #[true, true, true, true, true, true] rfl rfl (one_of HT_.out (by kernel_rfl)) (by decide) (fun K hK => ?_)
      clear hHeld
      refine skip_ (w1 := ?_) (by rfl) rfl ?_ ?_
      rotate_left
      · go_simp
        rfl
      refine hK.out _ _ ?_
      clear hK K
      refine done_ (done_of HT_.out (by kernel_rfl)) ?_
      have T := HT5.out
      generalize (W'.setCell ⟨w.heap.size, 0, none⟩ (.string (B (t.nb :: names)))).setCell ⟨w.heap.size, 1, none⟩ (.slice (some A') (ids.length + 1) c') = WB at T ⊢
      clear HT5 k0 k1 z0 z1
      have HRR : Hid (∀ j, (Srt.walks (t.kids.take j) (fun c => if c = t.nb then s.n else e c) (s.fresh.carry (e t.na) s.n)).Ok ∧ ((s.fresh.carry (e t.na) s.n)).n ≤ (Srt.walks (t.kids.take j) (fun c => if c = t.nb then s.n else e c) (s.fresh.carry (e t.na) s.n)).n ∧ (Srt.walks (t.kids.take j) (fun c => if c = t.nb then s.n else e c) (s.fresh.carry (e t.na) s.n)).n ≤ ((s.fresh.carry (e t.na) s.n)).n + sizes (t.kids.take j)) := fun j => Srt.walks_ok (fun c => if c = t.nb then s.n else e c) (t.kids.take j) (s.fresh.carry (e t.na) s.n) (fun u hu => kid_wf_mem HW.out (List.mem_of_mem_take hu)) H1.out (fun u hu => H2.out u (List.mem_of_mem_take hu))
      have HT := Lib.hid T
      clear T
      go_wp2_with fail
      refine (spec_tmParts.calls 3000 (B t.text) _ _ hpt).mono ?_
      rintro e' w3 ⟨v, rfl, R, hb3⟩
      obtain ⟨Ap, cp, rfl⟩ := Kd.R_slice R
      have hL : (t.kids.map fun u => B u.text).length = t.kids.length := by simp
      rw [hL] at R
      obtain ⟨K, hK1, hK2⟩ := parts_row R
      have HK2 := Lib.hid hK2
      have HT3 := Lib.hid (HT.out.more hb3 hK1)
      rw [hL]
      clear R hb3 hpt hK1 hK2 HT
      go_wp2_with fail
      go_loopw [62] (fun i wr => ∃ j : Nat, j ≤ t.kids.length ∧ i = .int .i64 j ∧ RK w wr N g w.heap.size v1 v2 ex (Srt.walks (t.kids.take j) (fun c => if c = t.nb then s.n else e c) (s.fresh.carry (e t.na) s.n)) (t.nb :: names) (some A') c' (((s.n : Nat) : Int) :: ids) (fun c => if c = t.nb then s.n else e c) K) (fun i _ => t.kids.length - (intOf i).toNat)
      case atStart => exact ⟨0, Nat.zero_le _, rfl, HT3.out⟩
      case round =>
        obtain ⟨j, hj, rfl, hr⟩ := hrel
        have HR := Lib.hid hr
        clear hr
        by_cases hlt : j < t.kids.length
        · obtain ⟨gp, rfl, hc⟩ := HK2.out wr (fun p hp => (HR.out.kp p hp).1) j hlt
          obtain ⟨k0, k1, z0, z1⟩ := HR.out.cells
          have h1 := Lib.hid (Srt.walks_take_succ t.kids (fun c => if c = t.nb then s.n else e c) (s.fresh.carry (e t.na) s.n) j hlt)
          have h2 := kid_le t j hlt
          have h3 := sizes_take_succ t.kids j hlt
          have h4 := sizes_take_le t.kids (j + 1)
          have h5 := sizes_kids t
          have hlt4 : (j : Int) < (t.kids.length : Int) := by omega
          obtain ⟨u1, u2, hs, hf2, hE, hK, hA⟩ := HR.out.sr
          have HST : Hid (∀ W5 x1 x2 s', Fr wr g u1 u2 W5 x1 x2 → SrAt W5 N g x1 x2 ex s' → RK w W5 N g w.heap.size v1 v2 ex s' (t.nb :: names) (some A') c' (((s.n : Nat) : Int) :: ids) (fun c => if c = t.nb then s.n else e c) K) := fun W5 x1 x2 s' f5 s5 => HR.out.step hs hf2 hE hK hA f5 s5
          have hrec := ih t.kids[j] (fun c => if c = t.nb then s.n else e c) (Srt.walks (t.kids.take j) (fun c => if c = t.nb then s.n else e c) (s.fresh.carry (e t.na) s.n)) wr N g u1 u2 ex (t.nb :: names) (some A') c' (((s.n : Nat) : Int) :: ids) (by omega) (by omega) (kid_wf HW.out j hlt) (by have := kid_tl t j hlt; omega) HR.out.nle hs (HRR.out j).1 (fun c hc => by have := H2.out _ (List.getElem_mem hlt) c hc; have := (HRR.out j).2.1; omega) (by have := (HRR.out j).2.2; have := H3.out; omega) (by have := H4.out; omega) HR.out.sc (fun ad ha => ⟨(HR.out.ag ad ha).1, (HR.out.ag ad ha).2, hA ad ha⟩)
          clear h3 h4 h5 hs hf2 hE hK hA
          go_wp2_with fail
          refine hrec.mono ?_
          rintro e' W5 ⟨rfl, x1, x2, S5, F5⟩
          have HN5 : Hid (RK w W5 N g w.heap.size v1 v2 ex (Srt.walks (t.kids.take (j + 1)) (fun c => if c = t.nb then s.n else e c) (s.fresh.carry (e t.na) s.n)) (t.nb :: names) (some A') c' (((s.n : Nat) : Int) :: ids) (fun c => if c = t.nb then s.n else e c) K) := by
            rw [h1.out]
            exact HST.out _ _ _ _ F5 S5
          clear hrec S5 F5 hc HST k0 k1 z0 z1
          go_wp2_with fail
          go_roundw
          case rel => exact ⟨j + 1, by omega, by go_num, HN5.out⟩
          case measure => simp [intOf]; omega
        · have HFI := Lib.hid (congrArg (fun l => Srt.walks l (fun c => if c = t.nb then s.n else e c) (s.fresh.carry (e t.na) s.n)) (List.take_of_length_le (by omega : t.kids.length ≤ j)))
          go_wp2_with fail
          go_end0
          obtain ⟨x1, x2, S6, F6, _⟩ := HR.out.sr
          exact ⟨rfl, x1, x2, by rw [HV.out, ← HFI.out]; exact S6, F6⟩
    · have HV := Lib.hid hv
      rw [decide_eq_true hkd2] at q35
      rw [decide_eq_false (by rw [hkd2]; decide)] at q33
      rw [decide_eq_false (by rw [hkd2]; decide)] at q63
      have H1 : Hid s.fresh.Ok := HO.out.fresh
      have H2 : Hid (∀ u, u ∈ t.kids → Srt.Sc u.fr (fun c => if c = t.nb then s.n else e c) s.fresh) := sc_bind HW.out (.inr hkd2) HSC.out (Nat.lt_succ_self _)
      have H3 : Hid (s.fresh.n + sizes t.kids ≤ 1000) := by have := HBD.out; show s.n + 1 + _ ≤ _; omega
      have H4 : Hid ((t.nb :: names).length + sizes t.kids ≤ 1000) := by show _ ≤ _; have := HNM.out; simp only [List.length_cons]; omega
      have HWI : Hid (spec_soScope_with.f (B names) ids (vl t.nb) ((s.n : Nat) : Int) = some (B (t.nb :: names), ((s.n : Nat) : Int) :: ids)) := with_f names ids t.nb _ (by have := HNM.out; omega) (by have := HNM.out; have := HLN.out; omega)
      obtain ⟨g1, gl⟩ := HHB.out.2.2 hkd2
      have b1 := byte_is g1
      have l1 : (1 : Int) < (t.text.length : Int) := by omega
      clear g1 hkd2 hv a1 a2 q61 HCASE
      go_enter Tryz.func62, Tryz.ntmps62
      go_upto_region 1 with fail
      obtain ⟨W2, hW2⟩ : ∃ W2, W2 = w.alloc (.cells #[.string (B names), .slice A ids.length c] 92) := ⟨_, rfl⟩
      rw [← hW2]
      have T : RK w W2 N g w.heap.size v1 v2 ex s names A c ids e [] := by rw [hW2]; exact RK.start HS.out HN.out HSP.out HAP.out _
      clear hW2
      go_wp2_with fail
      refine (spec_tmKind.calls 3000 (B t.text) _ _ hkd).mono ?_
      rintro e' WA ⟨rfl, hd1⟩
      replace T := T.below hd1.below
      clear hd1 hkd
      go_wp2_with fail
      refine start_ (n := 7) (S := fun w' => w'.cell? ⟨w.heap.size, 0, none⟩ = some (.string (B names)) ∧ w'.cell? ⟨w.heap.size, 1, none⟩ = some (.slice A ids.length c)) (ds := [6]) #[false, false, false, false, false, false, false] (by kernel_rfl) rfl rfl ⟨T.cells.1, T.cells.2.1⟩ (fun hHeld => ?_)
      refine with_tabW rwalk_.tab9 rwalk_.bits9 (fun HT_ HW_ => ?_)
      replace T := T.below (below_dd _)
      generalize WA.drew = W at T hHeld ⊢
      refine pure_ (i := 1) (N := some 42) (v := ?_) (a' := ?_) #[false, true, false, false, false, false, false] rfl rfl (any_of HT_.out (by kernel_rfl)) (fun _ _ _ h => h) (Or.inl ⟨by rfl, ?_⟩) ?_ ?_
      rotate_left; (intro w'; go_simp; with_reducible rfl); rotate_left; (simp only [Act.put, List.setIfInBounds_toArray, List.set_cons_zero, List.set_cons_succ, i64_w, i32_w]; rfl)
      refine pure_ (i := 3) (N := some 44) (v := ?_) (a' := ?_) #[false, true, false, true, false, false, false] rfl rfl (any_of HT_.out (by kernel_rfl)) (fun _ _ _ h => h) (Or.inl ⟨by rfl, ?_⟩) ?_ ?_
      rotate_left; (intro w'; go_simp; with_reducible rfl); rotate_left; (simp only [Act.put, List.setIfInBounds_toArray, List.set_cons_zero, List.set_cons_succ, i64_w, i32_w]; rfl)
      refine take_ (i := 0) (N := some 41) (v := ?_) (a' := ?_) #[true, true, false, true, false, false, false] rfl rfl (take_ofW HT_.out HW_.out (by kernel_rfl)) (fun _ _ _ h => h) (Or.inl ⟨by rfl, ?_⟩) hHeld ?_ ?_
      rotate_left; (rintro w' ⟨s0, s1⟩; go_simp; with_reducible rfl); rotate_left; (simp only [Act.put, List.setIfInBounds_toArray, List.set_cons_zero, List.set_cons_succ, i64_w, i32_w]; rfl)
      refine take_ (i := 2) (N := some 43) (v := ?_) (a' := ?_) #[true, true, true, true, false, false, false] rfl rfl (take_ofW HT_.out HW_.out (by kernel_rfl)) (fun _ _ _ h => h) (Or.inl ⟨by rfl, ?_⟩) hHeld ?_ ?_
      rotate_left; (rintro w' ⟨s0, s1⟩; go_simp; with_reducible rfl); rotate_left; (simp only [Act.put, List.setIfInBounds_toArray, List.set_cons_zero, List.set_cons_succ, i64_w, i32_w]; rfl)
      refine one_ (i := 4) (N := some 45) #[true, true, true, true, true, false, false] rfl rfl (one_of HT_.out (by kernel_rfl)) (by decide) (fun K hK => ?_)
      obtain ⟨u1, u2, hs, hf2, hE, hK, hA⟩ := T.sr
      refine goes_ Tryz.func61 (by kernel_rfl) rfl #[.pointer (some ⟨g, 0, none⟩)] (by rfl) rfl rfl (by simp only [List.map_toArray, List.map_cons, List.map_nil]; rfl) ?_
      with_reducible refine (fresh_calls hs (show s.n ≤ 1000000 by have := HM.out; omega) T.nle).mono ?_
      rintro e' W' ⟨y1, y2, rfl, S3, F3⟩
      refine ⟨_, rfl, ?_⟩
      replace T := T.step hs hf2 hE hK hA F3 S3
      clear S3 F3 hs hf2 hE hK hA hHeld
      refine hK.out _ _ ⟨T.cells.1, T.cells.2.1⟩ (fun hHeld => ?_)
      clear hK K
      refine norm_ (a' := ?_) ?_ ?_
      rotate_left
      · show Act.put _ (some 45) _ = _
        simp only [Act.put, List.setIfInBounds_toArray, List.set_cons_zero, List.set_cons_succ, i64_w, i32_w]
        rfl
      refine one_ (i := 5) (N := some 46) #[true, true, true, true, true, true, false] rfl rfl (one_of HT_.out (by kernel_rfl)) (by decide) (fun K hK => ?_)
      refine goes_ Tryz.func91 (by kernel_rfl) rfl #[.agg #[.string (B names), .slice A ids.length c], .int .u8 (vl t.nb), .int .i64 ((s.n : Nat) : Int)] (by rfl) rfl rfl (by simp only [List.map_toArray, List.map_cons, List.map_nil]; rfl) ?_
      with_reducible refine (spec_soScope_with.calls (B names) A c ids (vl t.nb) ((s.n : Nat) : Int) _ _ _ T.sc.row T.sc.cap HWI.out).mono ?_
      rintro e' W' ⟨vv, rfl, hR, hb⟩
      refine ⟨_, rfl, ?_⟩
      have T4 := T.below hb
      obtain ⟨A', c', rfl, T5⟩ := T.with_ (b := t.nb) hb hR
      obtain ⟨k0, k1, z0, z1⟩ := T4.cells
      have HT5 := Lib.hid T5
      clear T T5 hR hb hHeld
      refine hK.out _ _ ⟨k0, k1⟩ (fun hHeld => ?_)
      clear hK K
      refine norm_ (a' := ?_) ?_ ?_
      rotate_left
      · show Act.put _ (some 46) _ = _
        simp only [Act.put, List.setIfInBounds_toArray, List.set_cons_zero, List.set_cons_succ, i64_w, i32_w]
        rfl
      refine last_ (i := 6) (N := none) #[true, true, true, true, true, true, true] rfl rfl (one_of HT_.out (by kernel_rfl)) (by decide) (fun K hK => ?_)
      clear hHeld
      refine skip_ (w1 := ?_) (by rfl) rfl ?_ ?_
      rotate_left
      · go_simp
        rfl
      refine hK.out _ _ ?_
      clear hK K
      refine done_ (done_of HT_.out (by kernel_rfl)) ?_
      have T := HT5.out
      generalize (W'.setCell ⟨w.heap.size, 0, none⟩ (.string (B (t.nb :: names)))).setCell ⟨w.heap.size, 1, none⟩ (.slice (some A') (ids.length + 1) c') = WB at T ⊢
      clear HT5 k0 k1 z0 z1
      have HRR : Hid (∀ j, (Srt.walks (t.kids.take j) (fun c => if c = t.nb then s.n else e c) s.fresh).Ok ∧ (s.fresh).n ≤ (Srt.walks (t.kids.take j) (fun c => if c = t.nb then s.n else e c) s.fresh).n ∧ (Srt.walks (t.kids.take j) (fun c => if c = t.nb then s.n else e c) s.fresh).n ≤ (s.fresh).n + sizes (t.kids.take j)) := fun j => Srt.walks_ok (fun c => if c = t.nb then s.n else e c) (t.kids.take j) s.fresh (fun u hu => kid_wf_mem HW.out (List.mem_of_mem_take hu)) H1.out (fun u hu => H2.out u (List.mem_of_mem_take hu))
      have HT := Lib.hid T
      clear T
      go_wp2_with fail
      refine (spec_tmParts.calls 3000 (B t.text) _ _ hpt).mono ?_
      rintro e' w3 ⟨v, rfl, R, hb3⟩
      obtain ⟨Ap, cp, rfl⟩ := Kd.R_slice R
      have hL : (t.kids.map fun u => B u.text).length = t.kids.length := by simp
      rw [hL] at R
      obtain ⟨K, hK1, hK2⟩ := parts_row R
      have HK2 := Lib.hid hK2
      have HT3 := Lib.hid (HT.out.more hb3 hK1)
      rw [hL]
      clear R hb3 hpt hK1 hK2 HT
      go_wp2_with fail
      go_loopw [62] (fun i wr => ∃ j : Nat, j ≤ t.kids.length ∧ i = .int .i64 j ∧ RK w wr N g w.heap.size v1 v2 ex (Srt.walks (t.kids.take j) (fun c => if c = t.nb then s.n else e c) s.fresh) (t.nb :: names) (some A') c' (((s.n : Nat) : Int) :: ids) (fun c => if c = t.nb then s.n else e c) K) (fun i _ => t.kids.length - (intOf i).toNat)
      case atStart => exact ⟨0, Nat.zero_le _, rfl, HT3.out⟩
      case round =>
        obtain ⟨j, hj, rfl, hr⟩ := hrel
        have HR := Lib.hid hr
        clear hr
        by_cases hlt : j < t.kids.length
        · obtain ⟨gp, rfl, hc⟩ := HK2.out wr (fun p hp => (HR.out.kp p hp).1) j hlt
          obtain ⟨k0, k1, z0, z1⟩ := HR.out.cells
          have h1 := Lib.hid (Srt.walks_take_succ t.kids (fun c => if c = t.nb then s.n else e c) s.fresh j hlt)
          have h2 := kid_le t j hlt
          have h3 := sizes_take_succ t.kids j hlt
          have h4 := sizes_take_le t.kids (j + 1)
          have h5 := sizes_kids t
          have hlt4 : (j : Int) < (t.kids.length : Int) := by omega
          obtain ⟨u1, u2, hs, hf2, hE, hK, hA⟩ := HR.out.sr
          have HST : Hid (∀ W5 x1 x2 s', Fr wr g u1 u2 W5 x1 x2 → SrAt W5 N g x1 x2 ex s' → RK w W5 N g w.heap.size v1 v2 ex s' (t.nb :: names) (some A') c' (((s.n : Nat) : Int) :: ids) (fun c => if c = t.nb then s.n else e c) K) := fun W5 x1 x2 s' f5 s5 => HR.out.step hs hf2 hE hK hA f5 s5
          have hrec := ih t.kids[j] (fun c => if c = t.nb then s.n else e c) (Srt.walks (t.kids.take j) (fun c => if c = t.nb then s.n else e c) s.fresh) wr N g u1 u2 ex (t.nb :: names) (some A') c' (((s.n : Nat) : Int) :: ids) (by omega) (by omega) (kid_wf HW.out j hlt) (by have := kid_tl t j hlt; omega) HR.out.nle hs (HRR.out j).1 (fun c hc => by have := H2.out _ (List.getElem_mem hlt) c hc; have := (HRR.out j).2.1; omega) (by have := (HRR.out j).2.2; have := H3.out; omega) (by have := H4.out; omega) HR.out.sc (fun ad ha => ⟨(HR.out.ag ad ha).1, (HR.out.ag ad ha).2, hA ad ha⟩)
          clear h3 h4 h5 hs hf2 hE hK hA
          go_wp2_with fail
          refine hrec.mono ?_
          rintro e' W5 ⟨rfl, x1, x2, S5, F5⟩
          have HN5 : Hid (RK w W5 N g w.heap.size v1 v2 ex (Srt.walks (t.kids.take (j + 1)) (fun c => if c = t.nb then s.n else e c) s.fresh) (t.nb :: names) (some A') c' (((s.n : Nat) : Int) :: ids) (fun c => if c = t.nb then s.n else e c) K) := by
            rw [h1.out]
            exact HST.out _ _ _ _ F5 S5
          clear hrec S5 F5 hc HST k0 k1 z0 z1
          go_wp2_with fail
          go_roundw
          case rel => exact ⟨j + 1, by omega, by go_num, HN5.out⟩
          case measure => simp [intOf]; omega
        · have HFI := Lib.hid (congrArg (fun l => Srt.walks l (fun c => if c = t.nb then s.n else e c) s.fresh) (List.take_of_length_le (by omega : t.kids.length ≤ j)))
          go_wp2_with fail
          go_end0
          obtain ⟨x1, x2, S6, F6, _⟩ := HR.out.sr
          exact ⟨rfl, x1, x2, by rw [HV.out, ← HFI.out]; exact S6, F6⟩
    · have HV := Lib.hid hv
      rw [decide_eq_false k1] at q33
      rw [decide_eq_false k2] at q61
      rw [decide_eq_false k3] at q63
      rw [decide_eq_false k4] at q35
      have H1 : Hid s.Ok := HO.out
      have H2 : Hid (∀ u, u ∈ t.kids → Srt.Sc u.fr e s) := sc_plain HW.out ⟨k3, k4⟩ HSC.out (Nat.le_refl _)
      have H3 : Hid (s.n + sizes t.kids ≤ 1000) := by have := HBD.out; show _ ≤ _; omega
      have H4 : Hid (names.length + sizes t.kids ≤ 1000) := by show _ ≤ _; have := HNM.out; omega
      clear k1 k2 k3 k4 hv a1 a2 HCASE
      go_enter Tryz.func62, Tryz.ntmps62
      go_upto_region 1 with fail
      obtain ⟨W2, hW2⟩ : ∃ W2, W2 = w.alloc (.cells #[.string (B names), .slice A ids.length c] 92) := ⟨_, rfl⟩
      rw [← hW2]
      have T : RK w W2 N g w.heap.size v1 v2 ex s names A c ids e [] := by rw [hW2]; exact RK.start HS.out HN.out HSP.out HAP.out _
      clear hW2
      go_wp2_with fail
      refine (spec_tmKind.calls 3000 (B t.text) _ _ hkd).mono ?_
      rintro e' WA ⟨rfl, hd1⟩
      replace T := T.below hd1.below
      clear hd1 hkd
      go_wp2_with fail
      have HRR : Hid (∀ j, (Srt.walks (t.kids.take j) e s).Ok ∧ (s).n ≤ (Srt.walks (t.kids.take j) e s).n ∧ (Srt.walks (t.kids.take j) e s).n ≤ (s).n + sizes (t.kids.take j)) := fun j => Srt.walks_ok e (t.kids.take j) s (fun u hu => kid_wf_mem HW.out (List.mem_of_mem_take hu)) H1.out (fun u hu => H2.out u (List.mem_of_mem_take hu))
      have HT := Lib.hid T
      clear T
      go_wp2_with fail
      refine (spec_tmParts.calls 3000 (B t.text) _ _ hpt).mono ?_
      rintro e' w3 ⟨v, rfl, R, hb3⟩
      obtain ⟨Ap, cp, rfl⟩ := Kd.R_slice R
      have hL : (t.kids.map fun u => B u.text).length = t.kids.length := by simp
      rw [hL] at R
      obtain ⟨K, hK1, hK2⟩ := parts_row R
      have HK2 := Lib.hid hK2
      have HT3 := Lib.hid (HT.out.more hb3 hK1)
      rw [hL]
      clear R hb3 hpt hK1 hK2 HT
      go_wp2_with fail
      go_loopw [62] (fun i wr => ∃ j : Nat, j ≤ t.kids.length ∧ i = .int .i64 j ∧ RK w wr N g w.heap.size v1 v2 ex (Srt.walks (t.kids.take j) e s) names A c ids e K) (fun i _ => t.kids.length - (intOf i).toNat)
      case atStart => exact ⟨0, Nat.zero_le _, rfl, HT3.out⟩
      case round =>
        obtain ⟨j, hj, rfl, hr⟩ := hrel
        have HR := Lib.hid hr
        clear hr
        by_cases hlt : j < t.kids.length
        · obtain ⟨gp, rfl, hc⟩ := HK2.out wr (fun p hp => (HR.out.kp p hp).1) j hlt
          obtain ⟨k0, k1, z0, z1⟩ := HR.out.cells
          have h1 := Lib.hid (Srt.walks_take_succ t.kids e s j hlt)
          have h2 := kid_le t j hlt
          have h3 := sizes_take_succ t.kids j hlt
          have h4 := sizes_take_le t.kids (j + 1)
          have h5 := sizes_kids t
          have hlt4 : (j : Int) < (t.kids.length : Int) := by omega
          obtain ⟨u1, u2, hs, hf2, hE, hK, hA⟩ := HR.out.sr
          have HST : Hid (∀ W5 x1 x2 s', Fr wr g u1 u2 W5 x1 x2 → SrAt W5 N g x1 x2 ex s' → RK w W5 N g w.heap.size v1 v2 ex s' names A c ids e K) := fun W5 x1 x2 s' f5 s5 => HR.out.step hs hf2 hE hK hA f5 s5
          have hrec := ih t.kids[j] e (Srt.walks (t.kids.take j) e s) wr N g u1 u2 ex names A c ids (by omega) (by omega) (kid_wf HW.out j hlt) (by have := kid_tl t j hlt; omega) HR.out.nle hs (HRR.out j).1 (fun c hc => by have := H2.out _ (List.getElem_mem hlt) c hc; have := (HRR.out j).2.1; omega) (by have := (HRR.out j).2.2; have := H3.out; omega) (by have := H4.out; omega) HR.out.sc (fun ad ha => ⟨(HR.out.ag ad ha).1, (HR.out.ag ad ha).2, hA ad ha⟩)
          clear h3 h4 h5 hs hf2 hE hK hA
          go_wp2_with fail
          refine hrec.mono ?_
          rintro e' W5 ⟨rfl, x1, x2, S5, F5⟩
          have HN5 : Hid (RK w W5 N g w.heap.size v1 v2 ex (Srt.walks (t.kids.take (j + 1)) e s) names A c ids e K) := by
            rw [h1.out]
            exact HST.out _ _ _ _ F5 S5
          clear hrec S5 F5 hc HST k0 k1 z0 z1
          go_wp2_with fail
          go_roundw
          case rel => exact ⟨j + 1, by omega, by go_num, HN5.out⟩
          case measure => simp [intOf]; omega
        · have HFI := Lib.hid (congrArg (fun l => Srt.walks l e s) (List.take_of_length_le (by omega : t.kids.length ≤ j)))
          go_wp2_with fail
          go_end0
          obtain ⟨x1, x2, S6, F6, _⟩ := HR.out.sr
          exact ⟨rfl, x1, x2, by rw [HV.out, ← HFI.out]; exact S6, F6⟩
end Go.Proofs.YtjgfgjhaghbehaaGreat.Rf
namespace Go.Proofs.YtjgfgjhaghbehaaGreat.Rf
open Go.RowKit Go.Proofs.YtjgfgjhaghbehaaGreatW.PrintWords Go.Proofs.YtjgfgjhaghbehaaGreatW.PrintLast Go.Proofs.YtjgfgjhaghbehaaGreatW.PrintMore Go.Proofs.YtjgfgjhaghbehaaGreat.Pfind Go.Proofs.YtjgfgjhaghbehaaGreat.Pwith Go.Proofs.YtjgfgjhaghbehaaGreat.PsoPlace
set_option linter.unusedVariables false
set_option linter.unusedSimpArgs false

def idn : Nat → Int := fun i => (i : Int)
def idl (n : Nat) : List Int := (List.range n).map idn
theorem idl_len (n : Nat) : (idl n).length = n := by simp [idl]
theorem idn_succ (n : Nat) : upd idn n (n : Int) = idn := by
  funext i
  unfold upd idn
  split
  · rename_i h; rw [h]
  · rfl
theorem fnd_place : ∀ (L : List UInt8) (k : Nat) (d : UInt8), fnd L ((List.range L.length).map fun i => ((i + k : Nat) : Int)) d = if d ∈ L then ((Srt.place L d + k : Nat) : Int) else 0
  | [], k, d => by simp [fnd]
  | c :: L, k, d => by
    rw [List.length_cons, List.range_succ_eq_map, List.map_cons, List.map_map]
    simp only [fnd, Srt.place, Nat.zero_add]
    by_cases h : c = d
    · rw [if_pos h, if_pos (by rw [h]; simp), if_pos h.symm]; simp
    · rw [if_neg h, if_neg (fun (e : d = c) => h e.symm)]
      have e : ((fun i => ((i + k : Nat) : Int)) ∘ Nat.succ) = fun i : Nat => ((i + (k + 1) : Nat) : Int) := by funext i; simp only [Function.comp]; omega
      rw [e, fnd_place L (k + 1) d]
      by_cases hm : d ∈ L
      · rw [if_pos hm, if_pos hm, if_pos (List.mem_cons_of_mem _ hm)]; omega
      · rw [if_neg hm, if_neg (by simp only [List.mem_cons, hm, or_false]; exact fun e => h e.symm)]
theorem fnd_idl (L : List UInt8) (d : UInt8) : fnd L (idl L.length) d = ((Srt.place L d : Nat) : Int) := by
  have := fnd_place L 0 d
  simp only [Nat.add_zero] at this
  unfold idl idn
  rw [this]
  split
  · rfl
  · rename_i h; rw [Go.Proofs.YtjgfgjhaghbehaaGreat.place_no h]; rfl
theorem rw_C {w : World} {N n c : Nat} {A : Option Addr} (h : Rw w N (.slice A n c) n idn) (hn : n ≤ 1000000) : Kd.C (Kd.int .i64) w A n (idl n) := by
  refine Kd.C_of_reads (d := 0) ⟨idl_len n, by omega, fun hp => ?_⟩
  obtain ⟨r, cap, he, _⟩ := h.form hp
  injection he with h1 h2 h3
  subst h1 h3
  refine ⟨_, rfl, fun j hj => ?_⟩
  have := h.cell hj
  rw [show (⟨r, 0, none⟩ : Addr).add j = ⟨r, j, none⟩ from by unfold Addr.add; split <;> simp_all]
  rw [this]
  simp [idl, List.getD, hj, idn]
theorem rw_cap {w : World} {N n c : Nat} {A : Option Addr} (h : Rw w N (.slice A n c) n idn) : n ≤ c := by
  rcases Nat.eq_zero_or_pos n with hz | hp
  · omega
  · obtain ⟨r, cap, he, _, _, hc⟩ := h.form hp
    injection he with h1 h2 h3
    omega
theorem fresh_many (m : Nat) : (Srt.many m).fresh = Srt.many (m + 1) := rfl
structure RO (w wr : World) (s : Srt) (M : List UInt8) (v3 x3 : Value) (m : Nat) (K : List (Nat × Int)) : Prop where
  sr : ∃ v1 v2, SrAt wr (w.heap.size + 2) w.heap.size v1 v2 [] s ∧ ∀ k, v3.ownBlock = some k → v1.ownBlock ≠ some k ∧ v2.ownBlock ≠ some k
  row : Rw wr (w.heap.size + 2) v3 m idn
  box : ∃ t, wr.heap[w.heap.size + 1]? = some (.cells #[.string (B M), x3] t (0, 0))
  below : Below w.heap.size w wr
  nle : w.heap.size + 2 ≤ wr.heap.size
  pend : ∀ p, p ∈ K → wr.heap[p.1]? = some (.cells #[.int .i64 p.2] 3 (0, 0)) ∧ v3.ownBlock ≠ some p.1
section
variable {w wr w' : World} {s s' : Srt} {M : List UInt8} {v3 x3 u1 u2 z1 z2 : Value} {m : Nat} {K : List (Nat × Int)}
theorem RO.box_at (h : RO w wr s M v3 x3 m K) : wr.cell? ⟨w.heap.size + 1, 0, none⟩ = some (.string (B M)) ∧ wr.cell? ⟨w.heap.size + 1, 1, none⟩ = some x3 ∧ wr.frozen? ⟨w.heap.size + 1, 0, none⟩ = false ∧ wr.frozen? ⟨w.heap.size + 1, 1, none⟩ = false := by
  obtain ⟨t, h⟩ := h.box
  exact ⟨blk_cell h 0, blk_cell h 1, blk_frozen h 0, blk_frozen h 1⟩
theorem RO.later (h : RO w wr s M v3 x3 m K) (hb : Below wr.heap.size wr w') : RO w w' s M v3 x3 m K := by
  obtain ⟨⟨v1, v2, a1, a2⟩, r, ⟨t, b⟩, d, n, p⟩ := h
  refine ⟨⟨v1, v2, a1.below hb, a2⟩, r.keep fun k hk => hb.block k (r.own hk).2, ⟨t, blk_below b hb⟩, ?_, Nat.le_trans n hb.size, fun q hq => ⟨blk_below (p q hq).1 hb, (p q hq).2⟩⟩
  exact ⟨hb.os.trans d.os, hb.tape.trans d.tape, hb.output.trans d.output, Nat.le_trans d.size hb.size, fun i hi => (hb.block i (by omega)).trans (d.block i hi)⟩
theorem RO.name (h : RO w wr s M v3 x3 m K) (M' : List UInt8) : RO w (wr.setCell ⟨w.heap.size + 1, 0, none⟩ (.string (B M'))) s M' v3 x3 m K := by
  obtain ⟨⟨v1, v2, a1, a2⟩, r, ⟨t, b⟩, d, n, p⟩ := h
  have hf : ∀ j, j ≠ w.heap.size + 1 → (wr.setCell ⟨w.heap.size + 1, 0, none⟩ (.string (B M'))).heap[j]? = wr.heap[j]? := fun j hj => Below.heap_setCell wr _ _ j (by simpa using hj)
  refine ⟨⟨v1, v2, a1.far (by omega) (fun q => by have := (a1.r1.own q).1; omega) (fun q => by have := (a1.r2.own q).1; omega) _ _, a2⟩, r.keep fun k hk => hf k (by have := (r.own hk).1; omega), ⟨t, ?_⟩, d.setCell (by simp) _, by simpa [World.setCell] using n, fun q hq => ⟨(hf _ (fun e => ?_)).trans (p q hq).1, (p q hq).2⟩⟩
  · exact blk_put (cs' := #[.string (B M'), x3]) b 0 _ rfl
  · have hq2 := (p q hq).1
    rw [e, b] at hq2
    simp at hq2
theorem RO.step (h : RO w wr s M v3 x3 m []) (hs : SrAt wr (w.heap.size + 2) w.heap.size u1 u2 [] s) (h3 : ∀ k, v3.ownBlock = some k → u1.ownBlock ≠ some k ∧ u2.ownBlock ≠ some k) (hf : Fr wr w.heap.size u1 u2 w' z1 z2) (hs' : SrAt w' (w.heap.size + 2) w.heap.size z1 z2 [] s') : RO w w' s' M v3 x3 m [] := by
  obtain ⟨_, r, ⟨t, b⟩, d, n, p⟩ := h
  have hg := r.2
  refine ⟨⟨z1, z2, hs', fun k hk => hf.away (r.own hk).2 (h3 k hk).1 (h3 k hk).2⟩, r.keep fun k hk => hf.block k (r.own hk).2 (by have := (r.own hk).1; omega) (h3 k hk).1 (h3 k hk).2, ⟨t, (hf.block _ (blk_lt b) (by omega) (fun q => by have := (hs.r1.own q).1; omega) (fun q => by have := (hs.r2.own q).1; omega)).trans b⟩, hs.belowOf hf d (Nat.le_refl _), Nat.le_trans n hf.size, fun q hq => by cases hq⟩
theorem RO.lit (h : RO w wr s M v3 x3 m []) (x : Int) : RO w (wr.alloc (.cells #[.int .i64 x] 3)) s M v3 x3 m [(wr.heap.size, x)] := by
  have hr := h.row
  have := h.later ((Below.refl wr.heap.size wr).alloc (Nat.le_refl _) (.cells #[.int .i64 x] 3))
  refine ⟨this.sr, this.row, this.box, this.below, this.nle, fun p hp => ?_⟩
  rw [List.mem_singleton] at hp
  subst hp
  exact ⟨heap_alloc_new wr _, fun e => by have := (hr.own e).2; simp at this⟩
theorem RO.app (h : RO w wr s M v3 x3 m K) {gA capA : Nat} (hown : w'.ownsRow (w.heap.size + 2) 3 1 (.slice (some ⟨gA, 0, none⟩) (m + 1) capA) (m + 1) (ints m idn ++ [.int .i64 (m : Nat)]))
    (hgrow : wr.grownBy w' v3.ownBlock) (hat : v3.ownBlock = some gA ∨ gA = wr.heap.size) : RO w w' s M (.slice (some ⟨gA, 0, none⟩) (m + 1) capA) x3 (m + 1) [] := by
  obtain ⟨⟨v1, v2, a1, a2⟩, r, ⟨t, b⟩, d, n, p⟩ := h
  have hk : ∀ i, i < wr.heap.size → v3.ownBlock ≠ some i → w'.heap[i]? = wr.heap[i]? := fun i hi hn => hgrow.block i hi fun e => hn e.symm
  have n3 : ∀ i, i < w.heap.size + 2 → v3.ownBlock ≠ some i := fun i hi e => by have := (r.own e).1; omega
  have hi : idn = upd idn m ((m : Nat) : Int) := (idn_succ m).symm
  have hg := a1.gl
  have hs : SrAt w' (w.heap.size + 2) w.heap.size v1 v2 [] s := ⟨by obtain ⟨e, hc⟩ := a1.cells; exact ⟨e, (hk _ hg (n3 _ (by omega))).trans hc⟩, a1.r1.keep fun k hk1 => hk k (a1.r1.own hk1).2 fun e => (a2 k e).1 hk1, a1.r2.keep fun k hk1 => hk k (a1.r2.own hk1).2 fun e => (a2 k e).2 hk1, a1.gN, a1.ne⟩
  refine ⟨⟨v1, v2, hs, fun k hk2 => ?_⟩, ?_, ⟨t, (hk _ (blk_lt b) (n3 _ (by omega))).trans b⟩, ?_, Nat.le_trans n hgrow.size, fun q hq => by cases hq⟩
  · have hk' : gA = k := by simpa [Value.ownBlock] using hk2
    subst hk'
    rcases hat with q | q
    · exact a2 _ q
    · exact ⟨fun e => by have := (a1.r1.own e).2; omega, fun e => by have := (a1.r2.own e).2; omega⟩
  · unfold Rw; rw [hi, ints_succ]; exact hown
  · exact ⟨hgrow.os.trans d.os, hgrow.tape.trans d.tape, hgrow.output.trans d.output, Nat.le_trans d.size hgrow.size, fun i hi => (hk i (by omega) (n3 i (by omega))).trans (d.block i hi)⟩
theorem RO.put (h : RO w wr s M v3 x3 m K) : RO w (wr.setCell ⟨w.heap.size + 1, 1, none⟩ v3) s M v3 v3 m [] := by
  obtain ⟨⟨v1, v2, a1, a2⟩, r, ⟨t, b⟩, d, n, p⟩ := h
  have hf : ∀ j, j ≠ w.heap.size + 1 → (wr.setCell ⟨w.heap.size + 1, 1, none⟩ v3).heap[j]? = wr.heap[j]? := fun j hj => Below.heap_setCell wr _ _ j (by simpa using hj)
  refine ⟨⟨v1, v2, a1.far (by omega) (fun q => by have := (a1.r1.own q).1; omega) (fun q => by have := (a1.r2.own q).1; omega) _ _, a2⟩, r.keep fun k hk => hf k (by have := (r.own hk).1; omega), ⟨t, ?_⟩, d.setCell (by simp) _, by simpa [World.setCell] using n, fun q hq => by cases hq⟩
  exact blk_put (cs' := #[.string (B M), v3]) b 1 _ rfl
end
def rsof_.T7 : Bool × List (List Nat × List Nat) := (true, [([], []), ([0], [0]), ([], []), ([], []), ([], []), ([4], [4]), ([2, 3, 5], [2, 3, 5]), ([1, 6], [1, 6]), ([0, 1, 2, 3, 4, 5, 6, 7], []), ([8, 7, 0, 1, 2, 3, 4, 5, 6, 7], [7, 8])])
def rsof_.B7 : List Nat := [0, 1, 0, 0, 0, 16, 60, 127, 255, 511]
theorem rsof_.tab7 : rtab .any (opsOf Tryz.f32 7) = rsof_.T7 := by kernel_rfl
theorem rsof_.bits7 : waitsOk rsof_.T7.2 rsof_.B7 = true := by kernel_rfl
def rsof_.T8 : Bool × List (List Nat × List Nat) := (true, [([], []), ([0], [0]), ([], []), ([2], [2]), ([3], [3]), ([1, 4, 3], [1, 4]), ([0, 1, 2, 3, 4, 5], []), ([6, 5, 5, 0, 1, 2, 3, 4, 5], [5, 6])])
def rsof_.B8 : List Nat := [0, 1, 0, 4, 12, 31, 63, 127]
theorem rsof_.tab8 : rtab .any (opsOf Tryz.f32 8) = rsof_.T8 := by kernel_rfl
theorem rsof_.bits8 : waitsOk rsof_.T8.2 rsof_.B8 = true := by kernel_rfl
theorem take_cat (L : List UInt8) {j : Nat} (hj : j < L.length) : L.take j ++ [L[j]] = L.take (j + 1) := (List.take_succ_eq_append_getElem hj).symm
set_option maxHeartbeats 8000000 in
set_option maxRecDepth 100000 in
theorem rsof_calls (t : Tm) (w : World) (hw : Wf isLet t) (hs : t.size ≤ 400) (htl : t.text.length ≤ 1000) :
    Calls Tryz.prog 32 #[.string (B t.text)] w fun e w' => ∃ g N v1 v2, e = .returned (.pointer (some ⟨g, 0, none⟩)) ∧ SrAt w' N g v1 v2 [] (Srt.of t) ∧ Below w.heap.size w w' ∧ w.heap.size ≤ g ∧ N ≤ w'.heap.size := by
  obtain ⟨i0, hi, hz0, hz1, hz2⟩ := info_parts Tryz.infoInt
  have hfr := frees_text t 3000 hw (by omega) (by omega)
  go_enter Tryz.func32, Tryz.ntmps32
  go_upto_region 1 with fail
  go_upto_region 2 with fail
  go_upto_region 3 with fail
  obtain ⟨W2, hW2⟩ : ∃ W2, W2 = (w.alloc (.cells #[.slice none 0 0, .slice none 0 0] 57)).alloc (.cells #[.string (B []), .slice none 0 0] 92) := ⟨_, rfl⟩
  have H2 : Hid (RO w W2 (Srt.many 0) [] (.slice none 0 0) (.slice none 0 0) 0 []) := by
    rw [hW2]
    refine ⟨⟨.slice none 0 0, .slice none 0 0, ⟨⟨57, blk_alloc (heap_alloc_new w _) _⟩, ⟨rfl, .inl ⟨rfl, rfl⟩⟩, ⟨rfl, .inl ⟨rfl, rfl⟩⟩, by omega, fun k h => by cases h⟩, fun k h => by cases h⟩, ⟨rfl, .inl ⟨rfl, rfl⟩⟩, ⟨92, ?_⟩, ((Below.refl _ _).alloc (Nat.le_refl _) _).alloc (by simp) _, by simp, fun p h => by cases h⟩
    have := heap_alloc_new (w.alloc (.cells #[.slice none 0 0, .slice none 0 0] 57)) (.cells #[.string (B []), .slice none 0 0] 92)
    simpa using this
  have hW2' : ((w.alloc (.cells #[.slice none 0 0, .slice none 0 0] 57)).alloc (.cells #[.string { data := #[] }, .slice none 0 0] 92)) = W2 := hW2.symm
  rw [hW2']
  clear hW2 hW2'
  go_wp2_with fail
  refine (spec_tmFree.calls 3000 (B t.text) _ _ hfr).mono ?_
  rintro e W3 ⟨rfl, hb⟩
  have H3 : Hid (RO w W3 (Srt.many 0) [] (.slice none 0 0) (.slice none 0 0) 0 []) := H2.out.later hb
  clear hb hfr H2
  obtain ⟨L, hL⟩ : ∃ L, L = sortL t.fr := ⟨_, rfl⟩
  have HLL : Hid (L.length ≤ 26) := by rw [hL]; exact sort_len t.fr
  have hLz : (B L).size = L.length := B_size L
  rw [← hL]
  have HL := Lib.hid hL
  clear hL
  go_wp2_with fail
  go_loopw [6] (fun i wr => ∃ (j : Nat) (v3 : Value), j ≤ L.length ∧ i = .int .i64 j ∧ RO w wr (Srt.many j) (L.take j) v3 v3 j []) (fun i _ => L.length - (intOf i).toNat)
  case atStart => exact ⟨0, _, Nat.zero_le _, rfl, H3.out⟩
  case round =>
    obtain ⟨j, v3, hj, rfl, hr⟩ := hrel
    have HR := Lib.hid hr
    obtain ⟨o3, cap3, hv3⟩ := hr.row.shape
    subst hv3
    obtain ⟨c0, c1, z0, z1⟩ := HR.out.box_at
    clear hr
    by_cases hlt : j < L.length
    · have hlt4 : (j : Int) < (L.length : Int) := by omega
      have hex : (B L).extract j (j + 1) = B [L[j]] := by
        rw [B_extract]
        congr 1
        rw [List.take_succ_eq_append_getElem hlt, List.drop_append_of_le_length (by rw [List.length_take]; omega), List.drop_eq_nil_of_le (by rw [List.length_take]; omega), List.nil_append]
      have hwr : wrap64 ((j : Int) + 1) = (j : Int) + 1 := wrap_id (by omega) (by have := HLL.out; omega)
      have hsl : ∀ W : World, (Instr.slice 9 (.string (B L)) (some (.int .i64 j)) (some (.int .i64 ((j : Int) + 1))) none).run Tryz.prog W = .ok (.string (B [L[j]])) W := by
        intro W
        have := run_slice_string (P := Tryz.prog) W 9 (B L) .i64 .i64 (j : Int) ((j : Int) + 1) Tryz.underlying9 (by omega) (by omega) (by rw [hLz]; omega)
        rw [show ((j : Int) + 1).toNat = j + 1 from by omega, Int.toNat_natCast, hex] at this
        exact this
      have hcz : ¬ (9223372036854775807 < (B (L.take j)).size + (B [L[j]]).size) := by rw [B_size, B_size, List.length_take]; have := HLL.out; simp; omega
      have hcat : B (L.take j) ++ B [L[j]] = B (L.take (j + 1)) := by rw [B_append, List.take_succ_eq_append_getElem hlt]
      go_wp2_with fail
      refine start_ (n := 10) (S := fun w' => w'.cell? ⟨w.heap.size + 1, 0, none⟩ = some (.string (B (L.take j))) ∧ w'.cell? ⟨w.heap.size + 1, 1, none⟩ = some (.slice o3 j cap3)) (ds := [9]) #[false, false, false, false, false, false, false, false, false, false] (by kernel_rfl) rfl rfl ⟨HR.out.box_at.1, HR.out.box_at.2.1⟩ (fun hHeld => ?_)
      refine with_tabW rsof_.tab7 rsof_.bits7 (fun HT_ HW_ => ?_)
      have T := HR.out.later (below_dd wr)
      generalize wr.drew = W at T hHeld ⊢
      refine pure_ (i := 0) (N := some 18) (v := ?_) (a' := ?_) #[true, false, false, false, false, false, false, false, false, false] rfl rfl (any_of HT_.out (by kernel_rfl)) (fun _ _ _ h => h) (Or.inl ⟨by rfl, ?_⟩) ?_ ?_
      rotate_left; (intro w'; go_simp; with_reducible rfl); rotate_left; (simp only [Act.put, List.setIfInBounds_toArray, List.set_cons_zero, List.set_cons_succ, i64_w, i32_w]; rfl)
      refine pure_ (i := 2) (N := some 20) (v := ?_) (a' := ?_) #[true, false, true, false, false, false, false, false, false, false] rfl rfl (any_of HT_.out (by kernel_rfl)) (fun _ _ _ h => h) (Or.inl ⟨by rfl, ?_⟩) ?_ ?_
      rotate_left; (intro w'; go_simp; with_reducible rfl); rotate_left; (simp only [Act.put, List.setIfInBounds_toArray, List.set_cons_zero, List.set_cons_succ, i64_w, i32_w]; rfl)
      refine pure_ (i := 3) (N := some 21) (v := ?_) (a' := ?_) #[true, false, true, true, false, false, false, false, false, false] rfl rfl (any_of HT_.out (by kernel_rfl)) (fun _ _ _ h => h) (Or.inl ⟨by rfl, ?_⟩) ?_ ?_
      rotate_left; (intro w'; go_simp; with_reducible rfl); rotate_left; (simp only [Act.put, List.setIfInBounds_toArray, List.set_cons_zero, List.set_cons_succ, i64_w, i32_w]; rfl)
      refine pure_ (i := 4) (N := some 22) (v := ?_) (a' := ?_) #[true, false, true, true, true, false, false, false, false, false] rfl rfl (any_of HT_.out (by kernel_rfl)) (fun _ _ _ h => h) (Or.inl ⟨by rfl, ?_⟩) ?_ ?_
      rotate_left; (intro w'; go_simp; with_reducible rfl); rotate_left; (simp only [Act.put, List.setIfInBounds_toArray, List.set_cons_zero, List.set_cons_succ, i64_w, i32_w]; rfl)
      refine pure_ (i := 5) (N := some 23) (v := ?_) (a' := ?_) #[true, false, true, true, true, true, false, false, false, false] rfl rfl (any_of HT_.out (by kernel_rfl)) (fun _ _ _ h => h) (Or.inl ⟨by rfl, ?_⟩) ?_ ?_
      rotate_left; (intro w'; go_simp; with_reducible rfl); rotate_left; (simp only [Act.put, List.setIfInBounds_toArray, List.set_cons_zero, List.set_cons_succ, i64_w, i32_w]; rfl)
      refine pure_ (i := 6) (N := some 24) (v := ?_) (a' := ?_) #[true, false, true, true, true, true, true, false, false, false] rfl rfl (any_of HT_.out (by kernel_rfl)) (fun _ _ _ h => h) (Or.inl ⟨by rfl, ?_⟩) ?_ ?_
      rotate_left; (intro w'; go_simp; with_reducible rfl); rotate_left; (simp only [Act.put, List.setIfInBounds_toArray, List.set_cons_zero, List.set_cons_succ, i64_w, i32_w]; rfl)
      refine take_ (i := 1) (N := some 19) (v := ?_) (a' := ?_) #[true, true, true, true, true, true, true, false, false, false] rfl rfl (take_ofW HT_.out HW_.out (by kernel_rfl)) (fun _ _ _ h => h) (Or.inl ⟨by rfl, ?_⟩) hHeld ?_ ?_
      rotate_left; (rintro w' ⟨s0, s1⟩; go_simp; with_reducible rfl); rotate_left; (simp only [Act.put, List.setIfInBounds_toArray, List.set_cons_zero, List.set_cons_succ, i64_w, i32_w]; rfl)
      refine pure_ (i := 7) (N := some 25) (v := ?_) (a' := ?_) #[true, true, true, true, true, true, true, true, false, false] rfl rfl (any_of HT_.out (by kernel_rfl)) (fun _ _ _ h => h) (Or.inl ⟨by rfl, ?_⟩) ?_ ?_
      rotate_left; (intro w'; go_simp; with_reducible rfl); rotate_left; (simp only [Act.put, List.setIfInBounds_toArray, List.set_cons_zero, List.set_cons_succ, i64_w, i32_w]; rfl)
      refine pure_ (i := 8) (N := some 26) (v := ?_) (a' := ?_) #[true, true, true, true, true, true, true, true, true, false] rfl rfl (any_of HT_.out (by kernel_rfl)) (fun _ _ _ h => h) (Or.inl ⟨by rfl, ?_⟩) ?_ ?_
      rotate_left; (intro w'; go_simp; with_reducible rfl); rotate_left; (simp only [Act.put, List.setIfInBounds_toArray, List.set_cons_zero, List.set_cons_succ, i64_w, i32_w]; rfl)
      refine last_ (i := 9) (N := none) #[true, true, true, true, true, true, true, true, true, true] rfl rfl (one_of HT_.out (by kernel_rfl)) (by decide) (fun K hK => ?_)
      obtain ⟨k0, k1, y0, y1⟩ := T.box_at
      clear hHeld
      refine skip_ (w1 := ?_) (by rfl) rfl ?_ ?_
      rotate_left
      · go_simp
        rfl
      refine hK.out _ _ ?_
      clear hK K
      refine done_ (done_of HT_.out (by kernel_rfl)) ?_
      have T5 := T.name (L.take (j + 1))
      generalize W.setCell ⟨w.heap.size + 1, 0, none⟩ (.string (B (L.take (j + 1)))) = W5 at T5 ⊢
      clear k0 k1 y0 y1 T c0 c1 z0 z1 hex hwr hsl hcz hcat
      have HT5 := Lib.hid T5
      have hjn : (Srt.many j).n ≤ 1000000 := by rw [Srt.many_n]; have := HLL.out; omega
      have hmj : (((Srt.many j).n : Nat) : Int) = (j : Int) := by rw [Srt.many_n]
      clear T5
      go_wp2_with fail
      refine start_ (n := 8) (S := fun w' => w'.cell? ⟨w.heap.size + 1, 1, none⟩ = some (.slice o3 j cap3)) (ds := [7]) #[false, false, false, false, false, false, false, false] (by kernel_rfl) rfl rfl (HT5.out.box_at.2.1) (fun hHeld => ?_)
      refine with_tabW rsof_.tab8 rsof_.bits8 (fun HT_ HW_ => ?_)
      have T := HT5.out.later (below_dd W5)
      generalize W5.drew = W at T hHeld ⊢
      refine pure_ (i := 0) (N := some 27) (v := ?_) (a' := ?_) #[true, false, false, false, false, false, false, false] rfl rfl (any_of HT_.out (by kernel_rfl)) (fun _ _ _ h => h) (Or.inl ⟨by rfl, ?_⟩) ?_ ?_
      rotate_left; (intro w'; go_simp; with_reducible rfl); rotate_left; (simp only [Act.put, List.setIfInBounds_toArray, List.set_cons_zero, List.set_cons_succ, i64_w, i32_w]; rfl)
      refine pure_ (i := 2) (N := some 29) (v := ?_) (a' := ?_) #[true, false, true, false, false, false, false, false] rfl rfl (any_of HT_.out (by kernel_rfl)) (fun _ _ _ h => h) (Or.inl ⟨by rfl, ?_⟩) ?_ ?_
      rotate_left; (intro w'; go_simp; with_reducible rfl); rotate_left; (simp only [Act.put, List.setIfInBounds_toArray, List.set_cons_zero, List.set_cons_succ, i64_w, i32_w]; rfl)
      refine take_ (i := 1) (N := some 28) (v := ?_) (a' := ?_) #[true, true, true, false, false, false, false, false] rfl rfl (take_ofW HT_.out HW_.out (by kernel_rfl)) (fun _ _ _ h => h) (Or.inl ⟨by rfl, ?_⟩) hHeld ?_ ?_
      rotate_left; (intro w' s0; go_simp; with_reducible rfl); rotate_left; (simp only [Act.put, List.setIfInBounds_toArray, List.set_cons_zero, List.set_cons_succ, i64_w, i32_w]; rfl)
      refine one_ (i := 3) (N := some 30) #[true, true, true, true, false, false, false, false] rfl rfl (one_of HT_.out (by kernel_rfl)) (by decide) (fun K hK => ?_)
      obtain ⟨u1, u2, hs, h3⟩ := T.sr
      refine goes_ Tryz.func61 (by kernel_rfl) rfl #[.pointer (some ⟨w.heap.size, 0, none⟩)] (by rfl) rfl rfl (by simp only [List.map_toArray, List.map_cons, List.map_nil]; rfl) ?_
      with_reducible refine (fresh_calls hs hjn T.nle).mono ?_
      rintro e' W' ⟨x1, x2, rfl, S3, F3⟩
      refine ⟨_, rfl, ?_⟩
      rw [hmj]
      replace T := T.step hs h3 F3 S3
      clear S3 F3 hs h3 hHeld
      refine hK.out _ _ (T.box_at.2.1) (fun hHeld => ?_)
      clear hK K
      refine norm_ (a' := ?_) ?_ ?_
      rotate_left
      · show Act.put _ (some 30) _ = _
        simp only [Act.put, List.setIfInBounds_toArray, List.set_cons_zero, List.set_cons_succ, i64_w, i32_w]
        rfl
      refine one_ (i := 4) (N := some 31) #[true, true, true, true, true, false, false, false] rfl rfl (one_of HT_.out (by kernel_rfl)) (by decide) (fun K hK => ?_)
      refine value_ (w1 := W'.alloc (.cells #[.int .i64 (j : Nat)] 3)) (v := .slice (some ⟨W'.heap.size, 0, none⟩) 1 1) (by rfl) rfl ?_ ?_
      · go_simp
      replace T := T.lit (j : Nat)
      obtain ⟨HA, hH⟩ : ∃ H, H = W'.heap.size := ⟨_, rfl⟩
      rw [← hH] at T ⊢
      obtain ⟨W, hW⟩ : ∃ W, W = W'.alloc (.cells #[.int .i64 (j : Nat)] 3) := ⟨_, rfl⟩
      rw [← hW] at T ⊢
      clear hH hW hHeld
      refine hK.out _ _ (T.box_at.2.1) (fun hHeld => ?_)
      clear hK K
      refine norm_ (a' := ?_) ?_ ?_
      rotate_left
      · show Act.put _ (some 31) _ = _
        simp only [Act.put, List.setIfInBounds_toArray, List.set_cons_zero, List.set_cons_succ, i64_w, i32_w]
        rfl
      refine one_ (i := 5) (N := some 32) #[true, true, true, true, true, true, false, false] rfl rfl (one_of HT_.out (by kernel_rfl)) (by decide) (fun K hK => ?_)
      refine step_append_lies _ (by rfl) (.tmp 28) (.tmp 31) _ (by rfl) (w.heap.size + 2) 3 i0 _ 1 8 Tryz.underlying47 hi hz0 hz1 hz2 rfl (by omega) (.slice o3 j cap3) j (ints j idn) (by rfl) (rw_own T.row) ⟨HA, 0, none⟩ 1 1 [.int .i64 (j : Nat)] (by rfl) (by rfl) (one_news _ _ _ 3 (T.pend (HA, (j : Nat)) (by simp)).1) (by simp [Value.oneCell']) (by omega) (by unfold maxLen; omega) (by omega) T.nle _ rfl ?_
      intro gA capA W hown hgrow hat hlt0
      replace T := T.app hown hgrow hat
      clear hown hgrow hat hlt0 hHeld
      refine hK.out _ _ (T.box_at.2.1) (fun hHeld => ?_)
      clear hK K
      refine norm_ (a' := ?_) ?_ ?_
      rotate_left
      · show Act.put _ (some 32) _ = _
        simp only [Act.put, List.setIfInBounds_toArray, List.set_cons_zero, List.set_cons_succ, i64_w, i32_w]
        rfl
      refine pure_ (i := 6) (N := some 33) (v := ?_) (a' := ?_) #[true, true, true, true, true, true, true, false] rfl rfl (any_of HT_.out (by kernel_rfl)) (fun _ _ _ h => h) (Or.inl ⟨by rfl, ?_⟩) ?_ ?_
      rotate_left; (intro w'; go_simp; with_reducible rfl); rotate_left; (simp only [Act.put, List.setIfInBounds_toArray, List.set_cons_zero, List.set_cons_succ, i64_w, i32_w]; rfl)
      refine last_ (i := 7) (N := none) #[true, true, true, true, true, true, true, true] rfl rfl (one_of HT_.out (by kernel_rfl)) (by decide) (fun K hK => ?_)
      obtain ⟨k0, k1, y0, y1⟩ := T.box_at
      clear hHeld
      refine skip_ (w1 := ?_) (by rfl) rfl ?_ ?_
      rotate_left
      · go_simp
        rfl
      refine hK.out _ _ ?_
      clear hK K
      refine done_ (done_of HT_.out (by kernel_rfl)) ?_
      have T6 := T.put
      have HT6 := Lib.hid T6
      clear T6 k0 k1 y0 y1 T
      go_wp2_with fail
      go_roundw
      case rel => exact ⟨j + 1, _, by omega, by go_num, HT6.out⟩
      case measure => simp [intOf]; omega
    · have hjl : j = L.length := by omega
      subst hjl
      rw [List.take_length] at c0 HR
      obtain ⟨v1, v2, hsr, h3⟩ := HR.out.sr
      have hrow := HR.out.row
      have hLL := HLL.out
      have hidl := idl_len L.length
      have hsc : Scp wr L o3 cap3 (idl L.length) (Srt.place L) := ⟨by rw [hidl]; exact rw_C hrow (by omega), by rw [hidl]; exact rw_cap hrow, by rw [hidl], fnd_idl L⟩
      have hwk := rwalk_any 500 t (Srt.place L) (Srt.many L.length) wr (w.heap.size + 2) w.heap.size v1 v2 [] L o3 cap3 (idl L.length) (by omega) (by omega) hw htl HR.out.nle hsr (Srt.many_ok _) (by rw [HL.out]; exact Srt.of_sc hw) (by rw [Srt.many_n]; omega) (by omega) hsc
        (fun ad ha => by
          subst ha
          have ho : (Value.slice (some ad) L.length cap3).ownBlock = some ad.block ∧ w.heap.size + 2 ≤ ad.block ∧ ad.block < wr.heap.size := by
            rcases hrow.2 with ⟨q, _⟩ | ⟨g, cap, cur, q, q2, q3, _⟩
            · cases q
            · injection q with q4 q5 q6; injection q4 with q4; subst q4; exact ⟨rfl, q2, blk_lt q3⟩
          exact ⟨by omega, ho.2.2, (h3 _ ho.1).1, (h3 _ ho.1).2⟩)
      have HOF : Hid (Srt.walk t (Srt.place L) (Srt.many L.length) = Srt.of t) := by rw [Hid, HL.out]; rfl
      have HSR := Lib.hid hsr
      rw [hidl] at hwk
      clear hsr h3 hrow hsc hidl
      go_wp2_with fail
      refine hwk.mono ?_
      rintro e' W6 ⟨rfl, u1, u2, S6, F6⟩
      rw [HOF.out] at S6
      have HS6 := Lib.hid S6
      have HB6 := Lib.hid (HSR.out.belowOf F6 HR.out.below (Nat.le_refl _))
      have HN6 : Hid (w.heap.size + 2 ≤ W6.heap.size) := Nat.le_trans HR.out.nle F6.size
      clear hwk S6 F6
      go_wp2_with fail
      go_ret
      exact ⟨_, _, u1, u2, rfl, HS6.out, HB6.out, Nat.le_refl _, HN6.out⟩
end Go.Proofs.YtjgfgjhaghbehaaGreat.Rf
