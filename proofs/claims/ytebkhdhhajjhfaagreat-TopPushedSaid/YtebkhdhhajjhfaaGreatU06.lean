/- Two convex polygons and a line between: an edge is enough. Plain Lean. -/
import Derived.Test.YtebkhdhhajjhfaaGreatU01
namespace Go.Proofs.YtebkhdhhajjhfaaGreat
end Go.Proofs.YtebkhdhhajjhfaaGreat

/- Poses: what follows what, in lowest terms, and how large. Plain Lean. -/
namespace Go.Proofs.YtebkhdhhajjhfaaGreat
end Go.Proofs.YtebkhdhhajjhfaaGreat

/- Panels apart: lines of edges, lines between, a corner less. Plain Lean. -/
namespace Go.Proofs.YtebkhdhhajjhfaaGreat
end Go.Proofs.YtebkhdhhajjhfaaGreat

/- Loops that close: the first angles. Plain Lean. -/
namespace Go.Proofs.YtebkhdhhajjhfaaGreat
end Go.Proofs.YtebkhdhhajjhfaaGreat

/- Panels and linkages that are valid; how large the numbers are. Plain Lean. -/
namespace Go.Proofs.YtebkhdhhajjhfaaGreat
/-! ### How large -/
end Go.Proofs.YtebkhdhhajjhfaaGreat

/- Proofs of clashes and of lines between. Plain Lean. -/
namespace Go.Proofs.YtebkhdhhajjhfaaGreat
end Go.Proofs.YtebkhdhhajjhfaaGreat

/- Places, corners, hinges and poses in memory. -/
namespace Go.Proofs.YtebkhdhhajjhfaaGreat
open Go.RowKit
end Go.Proofs.YtebkhdhhajjhfaaGreat

/- Blocks of the call's own, known whole; results that are a variable's cells. -/
namespace Go.Proofs.YtebkhdhhajjhfaaGreat
open Go.RowKit

theorem cell_heap {w : World} {b : Nat} {cs : Array Value} {t : TypeId} (h : w.heap[b]? = some (.cells cs t)) (j : Nat) : w.cell? ⟨b, j, none⟩ = cs[j]? := by
  simp [World.cell?, h]
theorem heap_alloc_new (w : World) (o : Obj) : (w.alloc o).heap[w.heap.size]? = some o := by
  simp only [World.alloc]; exact Array.getElem?_push_size
theorem add_zero' (b k : Nat) : (⟨b, 0, none⟩ : Addr).add k = ⟨b, k, none⟩ := by unfold Addr.add; split <;> simp_all
theorem cell_off' {W : World} {g h j k : Nat} {x : Value} (hne : g ≠ h) : (W.setCell ⟨g, j, none⟩ x).cell? ⟨h, k, none⟩ = W.cell? ⟨h, k, none⟩ := World.cell?_setCell_other _ _ _ _ (fun e => by injection e with e1 _ _; exact hne e1)
theorem cells_last {w : World} {cs : Array Value} {t : TypeId} {j : Nat} {v : Value} {g : Nat} (hg : w.heap.size = g) (hv : cs[j]? = some v) : (w.alloc (.cells cs t)).cell? ⟨g, j, none⟩ = some v := by
  subst hg
  rw [cell_heap (heap_alloc_new w _), hv]

/-- Block g holds these cells, and may be written. -/
structure Blk (W : World) (g : Nat) (vs : List Value) : Prop where
  c : ∀ j v, vs[j]? = some v → W.cell? ⟨g, j, none⟩ = some v
  f : ∀ j, W.frozen? ⟨g, j, none⟩ = false
  lt : g < W.heap.size
section
variable {W W' : World} {g : Nat} {vs : List Value}
theorem Blk.ext (h : Blk W g vs) (he : Ext W W') : Blk W' g vs :=
  ⟨fun j v hv => he.cell (h.c j v hv), fun j => (he.frozen h.lt).trans (h.f j), Nat.lt_of_lt_of_le h.lt he.le⟩
theorem Blk.new (cs : Array Value) (t : TypeId) : Blk (W.alloc (.cells cs t)) W.heap.size cs.toList :=
  ⟨fun j v hv => cells_last rfl (by simpa using hv), fun j => by simp only [World.frozen?, heap_alloc_new]; simp, by simp⟩
theorem Blk.new' {cs : Array Value} {t : TypeId} {n : Nat} (hn : W.heap.size = n) : Blk (W.alloc (.cells cs t)) n cs.toList := by subst hn; exact Blk.new cs t
theorem Blk.other (h : Blk W g vs) {b k : Nat} (hb : b ≠ g) (x : Value) : Blk (W.setCell ⟨b, k, none⟩ x) g vs :=
  ⟨fun j v hv => by rw [cell_off' hb]; exact h.c j v hv, fun j => by rw [World.frozen?_setCell]; exact h.f j, by simpa using h.lt⟩
/-- The cell j, for every world that holds what W holds. -/
theorem Blk.at_ (h : Blk W g vs) (j : Nat) {v : Value} (hv : vs[j]? = some v) : ∀ w', Ext W w' → w'.cell? ⟨g, j, none⟩ = some v := fun _ he => he.cell (h.c j v hv)
end

end Go.Proofs.YtebkhdhhajjhfaaGreat
