/- Which proofs are right: a line. -/
import Derived.Test.YtebkhdhhajjhfaaGreatU16
namespace Go.Proofs.YtebkhdhhajjhfaaGreat
open Go.RowKit
end Go.Proofs.YtebkhdhhajjhfaaGreat
