/- Plain laws of steps by given choices and by single rules. No program here. -/
import Derived.Test.YtkmlihdacnfhdaaGreatP8
namespace Go.Proofs.YtkmlihdacnfhdaaGreat
open Go.Proofs.YtkmlihdacnfhdaaGreat.Tot (tot)
open Go.Proofs.YtkmlihdacnfhdaaGreat.Mark (cnt mrk mkd mkd_mark cnt_mark)

/-! ### Single rules -/
def single (s : qR) (i : Nat) : List Int := (List.replicate s.qf.length (0 : Int)).set i 1
end Go.Proofs.YtkmlihdacnfhdaaGreat
