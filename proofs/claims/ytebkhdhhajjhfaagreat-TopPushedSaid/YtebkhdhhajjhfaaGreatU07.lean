/- Places: what the small functions compute, by the code and by the reference. -/
import Derived.Test.YtebkhdhhajjhfaaGreatU06
namespace Go.Proofs.YtebkhdhhajjhfaaGreat
open Go.RowKit

theorem ret_i {a b : Int} (h : a = b) : Ending.returned (.int .i64 a) = .returned (.int .i64 b) := by rw [h]
theorem ret_b {a b : Bool} (h : a = b) : Ending.returned (.bool a) = .returned (.bool b) := by rw [h]

def withinB (n lo hi : Int) : Bool := decide (lo ≤ n) && decide (n ≤ hi)
end Go.Proofs.YtebkhdhhajjhfaaGreat

/- The greatest common divisor, by the code (of some numbers) and by the reference (of two). -/
namespace Go.Proofs.YtebkhdhhajjhfaaGreat
open Go.RowKit

end Go.Proofs.YtebkhdhhajjhfaaGreat

/- The angles: by the reference, without a search. -/
namespace Go.Proofs.YtebkhdhhajjhfaaGreat
open Go.RowKit
end Go.Proofs.YtebkhdhhajjhfaaGreat

/- The angles: by the reference, without a search. -/
namespace Go.Proofs.YtebkhdhhajjhfaaGreat
open Go.RowKit
end Go.Proofs.YtebkhdhhajjhfaaGreat

/- The angles: by the reference, without a search. -/
namespace Go.Proofs.YtebkhdhhajjhfaaGreat
open Go.RowKit
end Go.Proofs.YtebkhdhhajjhfaaGreat

/- The angles: by the reference, without a search. -/
namespace Go.Proofs.YtebkhdhhajjhfaaGreat
open Go.RowKit
end Go.Proofs.YtebkhdhhajjhfaaGreat
