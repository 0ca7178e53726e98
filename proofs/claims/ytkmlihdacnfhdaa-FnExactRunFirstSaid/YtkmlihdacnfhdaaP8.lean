/- How many values the results of runs and steps have. No program here. -/
import Derived.Test.YtkmlihdacnfhdaaP3
import Derived.Test.YtkmlihdacnfhdaaP7
namespace Go.Proofs.Ytkmlihdacnfhdaa
open Go.Proofs.Ytkmlihdacnfhdaa.Tot (tot)
open Go.Proofs.Ytkmlihdacnfhdaa.Mark (cnt mrk mkd mkd_mark cnt_mark)

theorem few_runGo {s : qV} (hs : yA s) : ∀ (f : Nat) (made : Int) (u : qQ), zJ s u → FewState (runGo s f made u).1
  | 0, made, u, h => few_state hs h
  | f + 1, made, u, h => by
    by_cases hh : Halted s u
    · rw [runGo_halt hh]; exact few_state hs h
    · by_cases hc : (zf s u (xY s u)).2 = 0
      · rw [runGo_go rfl hh hc]; exact few_runGo hs f _ _ (stepBy_ok hc)
      · rw [runGo_bad (by omega) hh hc]; exact few_default
theorem few_run (s : qV) (t : qQ) (n : Int) : FewState (qx s t n).1 := by
  by_cases h : yP s ∧ zJ s t
  · by_cases h1 : 0 ≤ n ∧ n ≤ 200
    · rw [run_0 h h1]; exact few_runGo h.1.1 _ _ _ h.2
    · rw [run_2 h h1]; exact few_default
  · rw [run_1 h]; exact few_default
end Go.Proofs.Ytkmlihdacnfhdaa
