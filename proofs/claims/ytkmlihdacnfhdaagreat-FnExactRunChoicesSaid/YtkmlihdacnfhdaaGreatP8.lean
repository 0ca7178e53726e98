/- How many values the results of runs and steps have. No program here. -/
import Derived.Test.YtkmlihdacnfhdaaGreatP3
import Derived.Test.YtkmlihdacnfhdaaGreatP7
namespace Go.Proofs.YtkmlihdacnfhdaaGreat
open Go.Proofs.YtkmlihdacnfhdaaGreat.Tot (tot)
open Go.Proofs.YtkmlihdacnfhdaaGreat.Mark (cnt mrk mkd mkd_mark cnt_mark)

end Go.Proofs.YtkmlihdacnfhdaaGreat
