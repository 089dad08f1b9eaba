/- The number of bits of a small number. -/
import Derived.Test.YtebkhdhhajjhfaaGreatU08
namespace Go.Proofs.YtebkhdhhajjhfaaGreat
open Go.RowKit
end Go.Proofs.YtebkhdhhajjhfaaGreat
