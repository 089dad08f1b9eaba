/- Trains: a mesh is valid, by the reference. -/
import Derived.Test.YtebkhdhhajjhfaaGreatU03
import Derived.Test.YtebkhdhhajjhfaaGreatU01
namespace Go.Proofs.YtebkhdhhajjhfaaGreat.Gr
open Go.RowKit

end Go.Proofs.YtebkhdhhajjhfaaGreat.Gr

/- Trains in memory; a train is valid, by the code and by the reference. -/
namespace Go.Proofs.YtebkhdhhajjhfaaGreat.Gr
open Go.RowKit

end Go.Proofs.YtebkhdhhajjhfaaGreat.Gr

/- A train is valid, by the reference. -/
namespace Go.Proofs.YtebkhdhhajjhfaaGreat.Gr
open Go.RowKit

end Go.Proofs.YtebkhdhhajjhfaaGreat.Gr

/- Tuple assignments to places of the call's own row: the kind of growth, and the steps. No program in sight. -/
namespace Go.Proofs.YtebkhdhhajjhfaaGreat.Gr
open Go.RowKit

end Go.Proofs.YtebkhdhhajjhfaaGreat.Gr

/- The factors of a mesh, by the code, for each kind. -/
namespace Go.Proofs.YtebkhdhhajjhfaaGreat.Gr
open Go.RowKit

end Go.Proofs.YtebkhdhhajjhfaaGreat.Gr
