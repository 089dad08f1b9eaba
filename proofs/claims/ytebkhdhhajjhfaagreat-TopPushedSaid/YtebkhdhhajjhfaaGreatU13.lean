/- The pose that follows: by the reference. -/
import Derived.Test.YtebkhdhhajjhfaaGreatU12
import Derived.Deep.WholeRow
import Derived.Test.YtebkhdhhajjhfaaGreatU06
namespace Go.Proofs.YtebkhdhhajjhfaaGreat
open Go.RowKit
end Go.Proofs.YtebkhdhhajjhfaaGreat

/- The poses of a linkage, by both. -/
namespace Go.Proofs.YtebkhdhhajjhfaaGreat
open Go.RowKit
theorem row_heap {w : World} {b : Nat} {l : List Value} {t : TypeId} (h : w.heap[b]? = some (.cells l.toArray t)) : Row w (some ⟨b, 0, none⟩) l := fun k hk => ⟨_, rfl, by rw [add_zero', cell_heap h]; simp⟩
end Go.Proofs.YtebkhdhhajjhfaaGreat

/- The poses of a linkage, by the reference. -/
namespace Go.Proofs.YtebkhdhhajjhfaaGreat
open Go.RowKit
end Go.Proofs.YtebkhdhhajjhfaaGreat

/- Places in their range: by both. -/
namespace Go.Proofs.YtebkhdhhajjhfaaGreat
open Go.RowKit
end Go.Proofs.YtebkhdhhajjhfaaGreat

/- The corners of a panel with a pose, by the code. -/
namespace Go.Proofs.YtebkhdhhajjhfaaGreat
open Go.RowKit
end Go.Proofs.YtebkhdhhajjhfaaGreat

/- Panels in their own plane. Plain Lean. -/
namespace Go.Proofs.YtebkhdhhajjhfaaGreat
end Go.Proofs.YtebkhdhhajjhfaaGreat

/- A panel is valid: by the code. -/
namespace Go.Proofs.YtebkhdhhajjhfaaGreat
open Go.RowKit
end Go.Proofs.YtebkhdhhajjhfaaGreat

/- A linkage is valid: by the code. -/
namespace Go.Proofs.YtebkhdhhajjhfaaGreat
open Go.RowKit
end Go.Proofs.YtebkhdhhajjhfaaGreat
