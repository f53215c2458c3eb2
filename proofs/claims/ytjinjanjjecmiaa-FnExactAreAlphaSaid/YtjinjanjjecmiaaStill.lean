/- Regions that draw their order: reads and quiet calls before one store. -/
import Derived.Test.YtjinjanjjecmiaaBase
import Derived.StillTailTactics
namespace Go.Proofs.Ytjinjanjjecmiaa
theorem still_skip {P : Program} {ops : Array Oper} {w : World} {Q : Act → Prop} {a : Act} {o : Oper} {rest : List Oper} (h : Region.wanted o (yielded ops a.tmps) = false)
    (hr : wpStill P ops w Q rest (a.put o.dst undef)) : wpStill P ops w Q (o :: rest) a :=
  wpStill_step fun K hK => by rw [if_neg (by rw [h]; decide)]; exact hK _ hr
end Go.Proofs.Ytjinjanjjecmiaa
