/- All angles, by the code. -/
import Derived.Test.YtebkhdhhajjhfaaGreatU09
import Derived.Laws.Tables
import Derived.Laws.Rows
import Derived.Laws.CopyOwn
import Derived.BigRegion
import Derived.RegionTactic
namespace Go.Proofs.YtebkhdhhajjhfaaGreat
open Go.RowKit
/-- A block is known whole. -/
structure Whole (w : World) (g : Nat) (cs : Array Value) (t : TypeId) : Prop where
  h : w.heap[g]? = some (.cells cs t)
theorem Whole.new {w : World} {cs : Array Value} {t : TypeId} {g : Nat} (hg : w.heap.size = g) : Whole (w.alloc (.cells cs t)) g cs t := by
  subst hg; exact ⟨Go.heap_alloc_new _ _⟩
theorem Whole.ext {w w' : World} {g : Nat} {cs : Array Value} {t : TypeId} (h : Whole w g cs t) (he : Ext w w') : Whole w' g cs t := ⟨he.heap h.h⟩
theorem Whole.cell {w : World} {g : Nat} {cs : Array Value} {t : TypeId} (h : Whole w g cs t) (j : Nat) {v : Value} (hv : cs[j]? = some v) : w.cell? ⟨g, j, none⟩ = some v := by rw [cell_heap h.h, hv]
theorem Whole.free {w : World} {g : Nat} {cs : Array Value} {t : TypeId} (h : Whole w g cs t) (j : Nat) : w.frozen? ⟨g, j, none⟩ = false := frozen_of_row w g j cs t h.h
theorem Whole.setCell {w : World} {g : Nat} {cs : Array Value} {t : TypeId} (h : Whole w g cs t) (j : Nat) (v : Value) : Whole (w.setCell ⟨g, j, none⟩ v) g (cs.setIfInBounds j v) t := ⟨heap_setCell_same w g j cs t v h.h⟩
theorem Whole.farCell {w : World} {g k : Nat} {cs : Array Value} {t : TypeId} (h : Whole w g cs t) (hk : g ≠ k) (j : Nat) (v : Value) : Whole (w.setCell ⟨k, j, none⟩ v) g cs t := ⟨by rw [heap_setCell_other w _ _ _ hk]; exact h.h⟩
theorem Whole.blk {w : World} {g : Nat} {cs : Array Value} {t : TypeId} (h : Whole w g cs t) : Blk w g cs.toList :=
  ⟨fun j v hv => h.cell j (by simpa using hv), fun j => h.free j, (Array.getElem?_eq_some_iff.1 h.h).1⟩
end Go.Proofs.YtebkhdhhajjhfaaGreat
