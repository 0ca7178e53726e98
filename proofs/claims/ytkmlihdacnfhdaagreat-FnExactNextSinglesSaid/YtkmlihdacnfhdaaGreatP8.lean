/- How many values the results of runs and steps have. No program here. -/
import Derived.Test.YtkmlihdacnfhdaaGreatP3
import Derived.Test.YtkmlihdacnfhdaaGreatP7
namespace Go.Proofs.YtkmlihdacnfhdaaGreat
open Go.Proofs.YtkmlihdacnfhdaaGreat.Tot (tot)
open Go.Proofs.YtkmlihdacnfhdaaGreat.Mark (cnt mrk mkd mkd_mark cnt_mark)

theorem few_stepBy {s : qU} {t : qP} {counts : List Int} (hs : jH s) : FewState (xU s t counts).1 := by
  by_cases h : IsCh s t counts
  · rw [stepBy_yes h]; exact few_told hs
  · rw [stepBy_no h]; exact few_default
end Go.Proofs.YtkmlihdacnfhdaaGreat
