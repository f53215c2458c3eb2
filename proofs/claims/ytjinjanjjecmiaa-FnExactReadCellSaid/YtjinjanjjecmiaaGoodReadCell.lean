/- The reference's processes are those that the program reads. -/
import Derived.Test.YtjinjanjjecmiaaSpecbReadCell
namespace Go.Proofs.Ytjinjanjjecmiaa.PReadCell
open Go.RowKit Go.Proofs.YtjinjanjjecmiaaW.PrintWords Go.Proofs.YtjinjanjjecmiaaW.PrintLast Go.Proofs.YtjinjanjjecmiaaW.PrintMore
set_option linter.unusedVariables false
set_option linter.unusedSimpArgs false

theorem good_f (l : List UInt8) (k : Nat) (hk : 3000 ≤ k) : spec_tmGood.f k (B l) = some (readOk l) := by
  unfold spec_tmGood.f
  by_cases h300 : l.length ≤ 300
  · rw [if_pos (by rw [B_size]; omega)]
    have hsm : spec_tmSmall.f k (B l) = some (l.all smallB) := small_f l (by omega) 300 0 k l (At.start l) h300 (by omega)
    rw [hsm, Option.bind_some]
    by_cases hs : l.all smallB = true
    · rw [hs, if_pos rfl]
      obtain ⟨r, hr, hor⟩ := end_sound 300 l l 0 h300 (At.start l) (by omega)
      have hr := hr k (by omega)
      rw [show ((0 : Nat) : Int) = 0 from rfl] at hr
      rw [hr, Option.bind_some, B_size]
      by_cases hrl : r = (l.length : Int)
      · rw [if_pos hrl]
        rcases hor with rfl | ⟨t, rest, hw, hl, hrt⟩
        · omega
        · have hlen : l.length = t.text.length := by omega
          have hnil : rest = [] := by rw [hl] at hlen; simp at hlen; exact hlen
          subst hnil
          rw [List.append_nil] at hl
          subst hl
          have hwl := small_wf hw hs
          have hsz := size_le_text t
          rw [size_text t k hw (by omega) (by omega), Option.bind_some, read_text hwl]
          simp [h300]; omega
      · rw [if_neg hrl]
        rcases hg : readOk l with _ | _
        · rfl
        · obtain ⟨_, h1, h2, h3⟩ := read_good hg
          have hw := Wf.names (fun c => let_name) h2
          have e := end_text (parsed l).1 l [] 0 k hw (by rw [List.append_nil, ← h1]; exact At.start l) (by omega) (by omega)
          rw [← h1, show ((0 : Nat) : Int) = 0 from rfl, hr] at e
          exact absurd (Option.some.inj e) (by simpa using hrl)
    · rw [if_neg hs]
      rcases hg : readOk l with _ | _
      · rfl
      · obtain ⟨_, h1, h2, h3⟩ := read_good hg
        exact absurd (by rw [h1]; exact text_small h2) hs
  · rw [if_neg (by rw [B_size]; omega)]
    simp [readOk, h300]

end Go.Proofs.Ytjinjanjjecmiaa.PReadCell
