/- Plain laws of maximal choices: few values. No program here. -/
import Derived.Test.YtgjnaocffdhnbaaGreatPG
import Derived.Test.YtgjnaocffdhnbaaGreatP3
namespace Go.Proofs.YtgjnaocffdhnbaaGreat
set_option linter.unusedVariables false
set_option linter.unusedSimpArgs false
open Go.Proofs.YtgjnaocffdhnbaaGreat.Tot (tot)
open Go.Proofs.YtgjnaocffdhnbaaGreat.Mark (cnt mrk mkd mkd_mark cnt_mark)
theorem few_mc (s : qK) (t : xu) : cnt (xR s t).1 ≤ 4800 := by
  by_cases h : yw s ∧ zS s t
  · rw [mc_0 h]
    have hl := cho_len s t
    have := cntTo_one (yx s t).1 16 (fun k hk => by
      rw [cnt_ints, cho_rows s t _ (mem_at_L hk)]
      exact h.1.2.1) _ (Nat.le_refl _)
    rw [cnt_list]
    omega
  · rw [mc_1 h]; exact Nat.zero_le _
end Go.Proofs.YtgjnaocffdhnbaaGreat
