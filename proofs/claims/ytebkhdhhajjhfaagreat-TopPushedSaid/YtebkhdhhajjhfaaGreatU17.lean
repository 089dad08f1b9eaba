/- Which proofs are right: by the code. -/
import Derived.Test.YtebkhdhhajjhfaaGreatU16
namespace Go.Proofs.YtebkhdhhajjhfaaGreat
open Go.RowKit
end Go.Proofs.YtebkhdhhajjhfaaGreat
