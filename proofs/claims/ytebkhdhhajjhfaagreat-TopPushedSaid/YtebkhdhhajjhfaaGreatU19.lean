/- Which proofs are right: no line. -/
import Derived.Test.YtebkhdhhajjhfaaGreatU16
import Derived.Test.YtebkhdhhajjhfaaGreatU17
import Derived.Test.YtebkhdhhajjhfaaGreatU18
namespace Go.Proofs.YtebkhdhhajjhfaaGreat
open Go.RowKit
end Go.Proofs.YtebkhdhhajjhfaaGreat

/- Which proofs are right: corners inside. -/
namespace Go.Proofs.YtebkhdhhajjhfaaGreat
open Go.RowKit
end Go.Proofs.YtebkhdhhajjhfaaGreat

/- Which proofs are right: by the code. -/
namespace Go.Proofs.YtebkhdhhajjhfaaGreat
open Go.RowKit
end Go.Proofs.YtebkhdhhajjhfaaGreat

/- Which proofs are right: by the reference. -/
namespace Go.Proofs.YtebkhdhhajjhfaaGreat
open Go.RowKit
end Go.Proofs.YtebkhdhhajjhfaaGreat

/- Corners inside: by the reference. -/
namespace Go.Proofs.YtebkhdhhajjhfaaGreat
open Go.RowKit
end Go.Proofs.YtebkhdhhajjhfaaGreat

/- Which proofs are right: by the reference, whole. -/
namespace Go.Proofs.YtebkhdhhajjhfaaGreat
open Go.RowKit
end Go.Proofs.YtebkhdhhajjhfaaGreat
