/- The walks of reader.term (all branches), parse and read: what they hand back, and that it lies in new memory. -/
import Derived.Test.YtjinjanjjecmiaaRead
import Derived.Test.YtjinjanjjecmiaaText
import Derived.Test.YtjinjanjjecmiaaSize
namespace Go.Proofs.Ytjinjanjjecmiaa.Pterm
open Go.RowKit Go.Proofs.YtjinjanjjecmiaaW.PrintWords Go.Proofs.YtjinjanjjecmiaaW.PrintLast Go.Proofs.YtjinjanjjecmiaaW.PrintMore
set_option linter.unusedVariables false
set_option linter.unusedSimpArgs false

set_option maxHeartbeats 400000 in
theorem term_zero (n : Nat) (s : List UInt8) (st : St) (w0 w : World) (g : Nat) (hb : st.2 = false) (hc : (nx st).1 = 48) (hl : s.length ≤ 1000000) (hr : RdS w0 w g s st) (hB : Below w0.heap.size w0 w) :
    Calls Try.prog 100 #[.pointer (some ⟨g, 0, none⟩)] w (TermPost w0 w g s (.leaf 48 0 0, (nx st).2)) := by
  obtain ⟨c2, f2, hg⟩ := rd_cells hr
  rw [hb] at c2
  clear hb
  have M0 := Mid.start hr hB 49
  have HC := Lib.hid hc; clear hc
  go_enter Try.func100, Try.ntmps100
  go_wp2_with fail
  refine (next_calls M0.rd M0.hb hl).mono ?_
  rintro e w1 ⟨rfl, h1, h2, h3⟩
  have M1 := M0.call h1 h2 h3
  clear h1 h2 h3 M0 c2 f2
  rw [HC.out]
  go_wp2_with fail
  go_ret
  exact ⟨_, rfl, ⟨Nat.le_refl _, none, 0, M1.no⟩, M1.rd, M1.hb, M1.kp⟩

theorem term_any (s : List UInt8) (hl : s.length ≤ 1000000) (n : Nat) : TermUpto n s := by
  induction n with
  | zero => intro st w0 w g h; omega
  | succ n ih =>
    intro st w0 w g hmu hr hB
    by_cases hb : st.2 = true
    · rw [pT_bad _ hb]; exact term_bad n s st w0 w g hb hr hB
    have hb' : st.2 = false := by simpa using hb
    have hL : Less (nx st).2 st.1.length := nx_less (Nat.le_refl _)
    have hk := mu_step hb' hmu
    have e : pT (n + 1) st = _ := rfl
    by_cases h1 : (nx st).1 = 48
    · rw [show pT (n + 1) st = (.leaf 48 0 0, (nx st).2) from by simp [pT, hb', h1]]
      exact term_zero n s st w0 w g hb' h1 hl hr hB
    by_cases h2 : isLet (nx st).1 = true
    · rw [show pT (n + 1) st = _ from by simp only [pT, hb', Bool.false_eq_true, if_false, h1, h2, if_true]; rfl]
      exact term_letter n s st w0 w g hb' h1 h2 hl hr hB ih _ _ (Less.mu (((hL.nx.bad _).nm).nd _) hk) rfl rfl
    have h2' : isLet (nx st).1 = false := by simpa using h2
    by_cases h3 : (nx st).1 = 126
    · rw [show pT (n + 1) st = _ from by simp only [pT, hb', Bool.false_eq_true, if_false, h1, h2, h3, if_true]; rw [if_neg (by decide), if_neg (by decide)]]
      exact term_tilde n s st w0 w g hb' h3 hl hr hB ih (Less.mu (hL.nd _) hk)
    by_cases h4 : (nx st).1 = 35
    · rw [show pT (n + 1) st = _ from by simp only [pT, hb', Bool.false_eq_true, if_false, h1, h2, h3, h4, if_true]; rw [if_neg (by decide), if_neg (by decide), if_neg (by decide)]]
      exact term_hash n s st w0 w g hb' h4 hl hr hB ih (Less.mu (hL.nm.nd _) hk)
    by_cases h5 : (nx st).1 = 91
    · rw [show pT (n + 1) st = _ from by simp only [pT, hb', Bool.false_eq_true, if_false, h1, h2, h3, h4, h5, if_true]; rw [if_neg (by decide), if_neg (by decide), if_neg (by decide), if_neg (by decide)]]
      exact term_match n s st w0 w g hb' h5 hl hr hB ih _ rfl (Less.mu (((hL.nm.nd _).nm).nd _) hk)
    by_cases h6 : (nx st).1 = 42
    · rw [show pT (n + 1) st = _ from by simp only [pT, hb', Bool.false_eq_true, if_false, h1, h2, h3, h4, h5, h6, if_true]; rw [if_neg (by decide), if_neg (by decide), if_neg (by decide), if_neg (by decide), if_neg (by decide)]]
      exact term_star n s st w0 w g hb' h6 hl hr hB ih (Less.mu hL hk)
    by_cases h7 : (nx st).1 = 40
    · rw [show pT (n + 1) st = _ from by simp only [pT, hb', Bool.false_eq_true, if_false, h1, h2, h3, h4, h5, h6, h7, if_true]; rw [if_neg (by decide), if_neg (by decide), if_neg (by decide), if_neg (by decide), if_neg (by decide), if_neg (by decide)]]
      exact term_paren n s st w0 w g hb' h7 hl hr hB ih _ _ _ _ rfl rfl rfl (Less.mu hL hk) (Less.mu ((((hL.pT n).nx).bad _)) hk)
    · rw [show pT (n + 1) st = _ from by simp only [pT, hb', Bool.false_eq_true, if_false, h1, h2, h3, h4, h5, h6, h7]; rfl]
      exact term_other n s st w0 w g hb' h2' h1 h3 h4 h5 h6 h7 hl hr hB ih (Less.mu (hL.bad true) hk)


theorem RdS.at_end {w0 W : World} {g : Nat} {s : List UInt8} {st : St} (h : RdS w0 W g s st) : W.cell? ⟨g, 1, none⟩ = some (.int .i64 ((s.length - st.1.length : Nat) : Int)) := by
  obtain ⟨pre, hs, h1, h2⟩ := h
  have : s.length - st.1.length = pre.length := by rw [hs]; simp
  rw [this]
  exact blk_cell h1 1

def ParsePost (w : World) (l : List UInt8) (e : Ending) (w' : World) : Prop :=
  ∃ b, e = .returned (.tuple #[.pointer (some ⟨b, 0, none⟩), .bool (parseOk l)]) ∧ Lies w' w.heap.size (parsed l).1 b ∧ Below w.heap.size w w'

set_option maxHeartbeats 1000000 in
theorem parse_calls (l : List UInt8) (hl : l.length ≤ 1000000) (w : World) :
    Calls Try.prog 79 #[.string (B l)] w (ParsePost w l) := by
  have hI : IsS84 w (w.alloc (.cells #[.string (B l), .int .i64 ((([] : List UInt8).length : Nat) : Int), .bool false] 84)) w.heap.size (B l) _ false := IsS84.new w w (B l) _ false (Below.refl _ _)
  have hr : RdS w (w.alloc (.cells #[.string (B l), .int .i64 ((([] : List UInt8).length : Nat) : Int), .bool false] 84)) w.heap.size l (l, false) := ⟨[], rfl, hI⟩
  go_enter Try.func79, Try.ntmps79
  go_wp2_with fail
  refine (term_any l hl (l.length + 2) (l, false) w _ w.heap.size (by simp [mu]) hr (below_alloc (Below.refl _ _) _)).mono ?_
  rintro e w1 ⟨b, rfl, h1, h2, h3, h4⟩
  obtain ⟨q2, _, _⟩ := rd_cells h2
  have q1 := h2.at_end
  have hlen : (parsed l).2.1.length ≤ l.length := pT_len _ _
  have hz : (B l).size = l.length := B_size l
  have FIN : Hid (∀ bb n, bb = parseOk l → ParsePost w l (.returned (.tuple #[.pointer (some ⟨b, 0, none⟩), .bool bb])) (w1.drewN n)) :=
    fun bb n hbb => ⟨b, by rw [hbb], (h1.mono (by simp)).keep fun _ _ _ => rfl, pw_below_drewN h3 n⟩
  change w1.cell? ⟨w.heap.size, 2, none⟩ = some (.bool (parsed l).2.2) at q2
  change w1.cell? ⟨w.heap.size, 1, none⟩ = some (.int .i64 ((l.length - (parsed l).2.1.length : Nat) : Int)) at q1
  clear h1 h2 h3 h4 hI hr
  have HP : Hid (parseOk l = (!(parsed l).2.2 && decide ((parsed l).2.1 = []))) := rfl
  rcases hbad : (parsed l).2.2 with _ | _
  · rw [hbad] at q2 HP
    have HB := Lib.hid hbad
    clear hbad
    by_cases hr : (parsed l).2.1 = []
    · rw [hr] at q1 HP
      clear hr
      simp only [List.length_nil, Nat.sub_zero] at q1
      go_wp2_with fail
      repeat (go_quiet (fail); try go_wp2)
      go_ret2
      exact FIN.out _ _ (by rw [HP.out]; rfl)
    · have hlt : (parsed l).2.1.length ≠ 0 := fun h => hr (List.length_eq_zero_iff.mp h)
      have HR : Hid (decide ((parsed l).2.1 = []) = false) := by simpa [Hid] using hr
      obtain ⟨m, hm⟩ : ∃ m, m = l.length - (parsed l).2.1.length := ⟨_, rfl⟩
      rw [← hm] at q1
      have hm2 : m < l.length := by omega
      have e0 : ((m : Int) == (l.length : Int)) = false := by rw [beq_eq_false_iff_ne]; omega
      clear hm hr hlt
      go_wp2_with fail
      repeat (go_quiet (fail); try go_wp2)
      go_ret2
      exact FIN.out _ _ (by rw [HP.out, HR.out]; rfl)
  · rw [hbad] at q2 HP
    clear hbad
    go_wp2_with fail
    repeat (go_quiet (fail); try go_wp2)
    go_ret2
    exact FIN.out _ _ (by rw [HP.out]; rfl)


def ReadPost (w : World) (l : List UInt8) (e : Ending) (w' : World) : Prop :=
  Below w.heap.size w w' ∧ ∃ p, e = .returned (.tuple #[.pointer p, .bool (readOk l)]) ∧ (readOk l = true → ∃ b, p = some ⟨b, 0, none⟩ ∧ Lies w' w.heap.size (parsed l).1 b)

set_option maxHeartbeats 1000000 in
theorem read_calls (l : List UInt8) (w : World) (hl : l.length ≤ 140737488351232) :
    Calls Try.prog 49 #[.string (B l)] w (ReadPost w l) := by
  have hz : (B l).size = l.length := B_size l
  by_cases hlen : l.length ≤ 300
  · have HD : Hid (readOk l = (parseOk l && decide ((parsed l).1.size ≤ 60))) := by simp [Hid, readOk, hlen]
    go_enter Try.func49, Try.ntmps49
    go_wp2_with fail
    refine (parse_calls l (by omega) w).mono ?_
    rintro e w1 ⟨b, rfl, h1, h2⟩
    rcases hp : parseOk l with _ | _
    · rw [hp] at HD
      clear hp
      go_wp2_with fail
      go_ret2
      exact ⟨h2, _, by rw [HD.out]; rfl, fun h => by rw [HD.out] at h; cases h⟩
    · have hs : (parsed l).1.size ≤ 300 := by
        have := size_le_text (parsed l).1
        rw [← (parse_good hp).1] at this; omega
      rw [hp] at HD
      clear hp
      have FIN : Hid (∀ bb, bb = decide ((parsed l).1.size ≤ 60) → ReadPost w l (.returned (.tuple #[.pointer (some ⟨b, 0, none⟩), .bool bb])) w1) :=
        fun bb hbb => ⟨h2, _, by rw [hbb, HD.out]; rfl, fun _ => ⟨b, rfl, h1⟩⟩
      go_wp2_with fail
      refine (size_any 301 _ _ _ _ (by omega) (by omega) h1).mono ?_
      rintro e w' ⟨rfl, rfl⟩
      clear h1 h2
      go_wp2_with fail
      go_ret2
      exact FIN.out _ (by rw [decide_eq_decide]; omega)
  · have HD : Hid (readOk l = false) := by simp [Hid, readOk, hlen]
    go_enter Try.func49, Try.ntmps49
    go_wp2_with fail
    go_ret2
    exact ⟨Below.refl _ _, _, by rw [HD.out]; rfl, fun h => by rw [HD.out] at h; cases h⟩

end Go.Proofs.Ytjinjanjjecmiaa.Pterm
