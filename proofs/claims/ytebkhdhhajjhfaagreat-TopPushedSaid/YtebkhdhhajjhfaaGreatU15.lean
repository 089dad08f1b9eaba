/- A linkage in new memory. -/
import Derived.Test.YtebkhdhhajjhfaaGreatU14
import Derived.Lib.AppendZeros
namespace Go.Proofs.YtebkhdhhajjhfaaGreat
open Go.RowKit
section
variable {w1 w w' : World} {e : TypeId} {size n : Nat} {v : Value} {xs : List Value}
theorem Whole.grown {row : Option Nat} {g : Nat} {cs : Array Value} {t : TypeId} (h : Whole w g cs t) (hg : w.grownBy w' row) (hne : some g ≠ row) : Whole w' g cs t := ⟨(hg.block g (Array.getElem?_eq_some_iff.1 h.h).1 hne).trans h.h⟩
theorem Own.ne_whole {g : Nat} {cs : Array Value} {t : TypeId} (h : Own w1 w e size v n xs) (hg : Whole w g cs t) (ht : t ≠ e) : v.ownBlock ≠ some g := h.ne_block hg.h ht
theorem Own.lt (h : Own w1 w e size v n xs) {g : Nat} (hg : v.ownBlock = some g) : w1.heap.size ≤ g ∧ g < w.heap.size := h.2.lt g hg
end
end Go.Proofs.YtebkhdhhajjhfaaGreat

/- HingePoses: the law's own walk. -/
namespace Go.Proofs.YtebkhdhhajjhfaaGreat
open Go.RowKit
end Go.Proofs.YtebkhdhhajjhfaaGreat

/- Two panels: by both. -/
namespace Go.Proofs.YtebkhdhhajjhfaaGreat
open Go.RowKit
end Go.Proofs.YtebkhdhhajjhfaaGreat

/- Corners to the left of edges: by the code. -/
namespace Go.Proofs.YtebkhdhhajjhfaaGreat
open Go.RowKit
end Go.Proofs.YtebkhdhhajjhfaaGreat

/- Panels that clash: by the reference. -/
namespace Go.Proofs.YtebkhdhhajjhfaaGreat
open Go.RowKit
end Go.Proofs.YtebkhdhhajjhfaaGreat
