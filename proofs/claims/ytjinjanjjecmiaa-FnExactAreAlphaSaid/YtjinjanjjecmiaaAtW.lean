/- The walk of at: the subterm at a path. -/
import Derived.Test.YtjinjanjjecmiaaBase
import Derived.Test.YtjinjanjjecmiaaSize
namespace Go.Proofs.Ytjinjanjjecmiaa
open Go.RowKit Go.Proofs.YtjinjanjjecmiaaW.PrintWords
set_option linter.unusedVariables false
set_option linter.unusedSimpArgs false

/-- The subterm at a path, if there is one. -/
def Tm.sub (t : Tm) : List UInt8 → Option Tm
  | [] => some t
  | c :: l => if h : 48 ≤ c.toNat ∧ c.toNat - 48 < t.kids.length then (t.kids[c.toNat - 48]'h.2).sub l else none

def AtPost (w : World) (N : Nat) (o : Option Tm) (e : Ending) (w' : World) : Prop := w = w' ∧ match o with
  | none => e = .returned (.pointer none)
  | some u => ∃ x, e = .returned (.pointer (some ⟨x, 0, none⟩)) ∧ Lies w N u x

set_option maxHeartbeats 2000000 in
set_option maxRecDepth 100000 in
theorem at_calls (t : Tm) (path : List UInt8) (w : World) (N b : Nat) (hp : path.length ≤ 140737488351232) (hl : Lies w N t b) :
    Calls Try.prog 57 #[.pointer (some ⟨b, 0, none⟩), .string (B path)] w (AtPost w N (t.sub path)) := by
  have hz : (B path).size = path.length := B_size path
  go_enter Try.func57, Try.ntmps57
  go_wp2_with fail
  go_loop [0, 9] (fun p i => ∃ (k : Nat) (u : Tm) (x : Nat), k ≤ path.length ∧ i = .int .i64 k ∧ p = .pointer (some ⟨x, 0, none⟩) ∧ Lies w N u x ∧ t.sub path = u.sub (path.drop k)) (fun _ i => path.length - (intOf i).toNat)
  case atStart => exact ⟨0, t, b, Nat.zero_le _, rfl, rfl, hl, rfl⟩
  case round =>
    obtain ⟨k, u, x, hk, rfl, rfl, hx, hs⟩ := hrel
    have HS := Lib.hid hs
    clear hs
    by_cases hlt : k < path.length
    · have hc := byte_of path k hlt
      obtain ⟨o, cap, _, _, _, c3, hkid⟩ := hx.at
      have HK := Lib.hid hkid
      have hd : Hid (path.drop k = path[k] :: path.drop (k + 1)) := List.drop_eq_getElem_cons hlt
      obtain ⟨v0, v1⟩ := vl_range path[k]
      have hvn : Hid (vl path[k] = (path[k].toNat : Int)) := rfl
      clear hkid
      by_cases h48 : vl path[k] < 48
      · have HN : Hid (t.sub path = none) := by
          show _ = _
          rw [HS.out, hd.out, Tm.sub, dif_neg (by have := hvn.out; omega)]
        go_wp2_with fail
        go_ret
        refine ⟨rfl, ?_⟩
        rw [HN.out]; rfl
      · obtain ⟨j, hj⟩ : ∃ j : Nat, j = path[k].toNat - 48 := ⟨_, rfl⟩
        have hvj : vl path[k] = (j : Int) + 48 := by have := hvn.out; omega
        have hjn : Hid (path[k].toNat = j + 48) := by have := hvn.out; show _ = _; omega
        have hlj : (j : Int) ≤ 255 := by omega
        rw [hvj] at hc
        clear hvn hvj hj v0 v1 h48
        by_cases hin : j < u.kids.length
        · obtain ⟨r, y, rfl, hy, hyl⟩ := HK.out j hin
          have HN : Hid (t.sub path = (u.kids[j]'hin).sub (path.drop (k + 1))) := by
            show _ = _
            have e := hjn.out
            have e2 : path[k].toNat - 48 = j := by omega
            rw [HS.out, hd.out, Tm.sub, dif_pos ⟨by omega, by omega⟩]
            simp only [e2]
          go_wp2_with fail
          go_round
          case rel => exact ⟨k + 1, _, y, by omega, by go_num, rfl, hyl, HN.out⟩
          case measure => simp [intOf]; omega
        · have HN : Hid (t.sub path = none) := by
            show _ = _
            have e := hjn.out
            rw [HS.out, hd.out, Tm.sub, dif_neg (by omega)]
          go_wp2_with fail
          go_ret
          refine ⟨rfl, ?_⟩
          rw [HN.out]; rfl
    · have HN : Hid (t.sub path = some u) := by
        show _ = _
        rw [HS.out, List.drop_eq_nil_of_le (by omega)]; rfl
      go_wp2_with fail
      go_ret
      refine ⟨rfl, ?_⟩
      rw [HN.out]
      exact ⟨x, rfl, hx⟩

end Go.Proofs.Ytjinjanjjecmiaa
