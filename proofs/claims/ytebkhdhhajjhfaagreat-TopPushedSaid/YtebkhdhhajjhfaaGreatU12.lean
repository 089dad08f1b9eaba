/- The pose that follows: by the code. -/
import Derived.Test.YtebkhdhhajjhfaaGreatU11
import Derived.RegionTactic
import Derived.BigRegion
namespace Go.Proofs.YtebkhdhhajjhfaaGreat
open Go.RowKit
end Go.Proofs.YtebkhdhhajjhfaaGreat
