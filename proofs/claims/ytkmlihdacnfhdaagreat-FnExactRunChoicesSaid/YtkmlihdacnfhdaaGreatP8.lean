/- How many values the results of runs and steps have. No program here. -/
import Derived.Test.YtkmlihdacnfhdaaGreatP3
import Derived.Test.YtkmlihdacnfhdaaGreatP7
namespace Go.Proofs.YtkmlihdacnfhdaaGreat

end Go.Proofs.YtkmlihdacnfhdaaGreat
