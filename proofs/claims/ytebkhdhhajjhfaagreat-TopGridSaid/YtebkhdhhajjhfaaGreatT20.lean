/- All angles, by the code. -/
import Derived.Test.YtebkhdhhajjhfaaGreatT19
import Derived.Laws.Tables
import Derived.Laws.Rows
import Derived.Laws.CopyOwn
import Derived.BigRegion
import Derived.RegionTactic
namespace Go.Proofs.YtebkhdhhajjhfaaGreat
open Go.RowKit
/-- The first m angles, and then none. -/
def tabC (m : Nat) : Array Value := ((turns.take m ++ List.replicate (36 - m) (0, 0, 0)).flatMap tcells).toArray
/-- A block is known whole. -/
structure Whole (w : World) (g : Nat) (cs : Array Value) (t : TypeId) : Prop where
  h : w.heap[g]? = some (.cells cs t)
theorem Whole.new {w : World} {cs : Array Value} {t : TypeId} {g : Nat} (hg : w.heap.size = g) : Whole (w.alloc (.cells cs t)) g cs t := by
  subst hg; exact ⟨Go.heap_alloc_new _ _⟩
theorem Whole.ext {w w' : World} {g : Nat} {cs : Array Value} {t : TypeId} (h : Whole w g cs t) (he : Ext w w') : Whole w' g cs t := ⟨he.heap h.h⟩
theorem Whole.set {w : World} {g : Nat} {cs ds : Array Value} {t : TypeId} (h : Whole w g cs t) : Whole (w.setRow g ds) g ds t := ⟨setRow_heap w g cs ds t _ h.h⟩
theorem Whole.other {w : World} {g k : Nat} {cs ds : Array Value} {t : TypeId} (h : Whole w g cs t) (hk : g ≠ k) : Whole (w.setRow k ds) g cs t := ⟨by rw [setRow_other w k g ds hk]; exact h.h⟩
theorem Whole.cell {w : World} {g : Nat} {cs : Array Value} {t : TypeId} (h : Whole w g cs t) (j : Nat) {v : Value} (hv : cs[j]? = some v) : w.cell? ⟨g, j, none⟩ = some v := by rw [cell_heap h.h, hv]
theorem Whole.free {w : World} {g : Nat} {cs : Array Value} {t : TypeId} (h : Whole w g cs t) (j : Nat) : w.frozen? ⟨g, j, none⟩ = false := frozen_of_row w g j cs t h.h
theorem Whole.setCell {w : World} {g : Nat} {cs : Array Value} {t : TypeId} (h : Whole w g cs t) (j : Nat) (v : Value) : Whole (w.setCell ⟨g, j, none⟩ v) g (cs.setIfInBounds j v) t := ⟨heap_setCell_same w g j cs t v h.h⟩
theorem Whole.farCell {w : World} {g k : Nat} {cs : Array Value} {t : TypeId} (h : Whole w g cs t) (hk : g ≠ k) (j : Nat) (v : Value) : Whole (w.setCell ⟨k, j, none⟩ v) g cs t := ⟨by rw [heap_setCell_other w _ _ _ hk]; exact h.h⟩
theorem Whole.blk {w : World} {g : Nat} {cs : Array Value} {t : TypeId} (h : Whole w g cs t) : Blk w g cs.toList :=
  ⟨fun j v hv => h.cell j (by simpa using hv), fun j => h.free j, (Array.getElem?_eq_some_iff.1 h.h).1⟩
theorem Whole.row {w : World} {g : Nat} {cs : Array Value} {t : TypeId} (h : Whole w g cs t) (off : Nat) (xs : List Value) (hx : (cs.toList.drop off).take xs.length = xs) : Row w (some ⟨g, off, none⟩) xs := fun k hk => by
  refine ⟨_, rfl, ?_⟩
  have e : (⟨g, off, none⟩ : Addr).add k = ⟨g, off + k, none⟩ := by unfold Addr.add; split <;> simp_all
  rw [e, cell_heap h.h, ← hx]
  rw [List.getElem?_take_of_lt hk, List.getElem?_drop, Array.getElem?_toList]
theorem sorted_of {l : List (Int × Int × Int)} (h : ∀ k, k < l.length - 1 → 0 ≤ cmpL (turnL (tAt l (k + 1))) (turnL (tAt l k))) : sortedT l := fun k h0 hk => by
  have := h (k - 1) (by omega)
  rwa [show k - 1 + 1 = k by omega] at this
theorem Ext.setRow {w0 w : World} {g : Nat} {ds : Array Value} (h : Ext w0 w) (hg : w0.heap.size ≤ g) : Ext w0 (w.setRow g ds) := below_setRow h hg ds

set_option maxRecDepth 100000 in
set_option maxHeartbeats 16000000 in
theorem table_any (w : World) : Calls Tryz.prog 92 #[] w fun e w' => e = .returned (.agg (turns.flatMap tcells).toArray) ∧ Ext w w' := by
  go_enter Tryz.func92, Tryz.ntmps92
  go_wp2_with (refine wpList_store_row rfl 198 (.tmp 1) (.tmp 13) rfl (w.heap.size + 1) (tabC 4) rfl (by kernel_rfl) 198 Tryz.zeroCells198 (Go.heap_alloc2_new _ _ _) (by kernel_rfl) (by kernel_rfl) (by kernel_rfl) ?_)
  have k0 : Whole (((w.alloc (Obj.cells Tryz.zeroCells198 198)).alloc (Obj.cells Tryz.zeroCells198 198)).setRow (w.heap.size + 1) (tabC 4)) w.heap.size Tryz.zeroCells198 198 := ((Whole.new rfl).ext ((Ext.refl _).alloc _)).other (by omega)
  have k1 : Whole (((w.alloc (Obj.cells Tryz.zeroCells198 198)).alloc (Obj.cells Tryz.zeroCells198 198)).setRow (w.heap.size + 1) (tabC 4)) (w.heap.size + 1) (tabC 4) 198 := Whole.set (cs := Tryz.zeroCells198) (Whole.new (by simp))
  have kx : Ext w (((w.alloc (Obj.cells Tryz.zeroCells198 198)).alloc (Obj.cells Tryz.zeroCells198 198)).setRow (w.heap.size + 1) (tabC 4)) := Ext.setRow (by simp) (by omega)
  generalize (((w.alloc (Obj.cells Tryz.zeroCells198 198)).alloc (Obj.cells Tryz.zeroCells198 198)).setRow (w.heap.size + 1) (tabC 4)) = W at *
  have x0 : ∀ w : World, (Instr.index 238 (.agg #[.int .i64 (4), .int .i64 (3), .int .i64 (5), .int .i64 (12), .int .i64 (5), .int .i64 (13), .int .i64 (15), .int .i64 (8), .int .i64 (17), .int .i64 (24), .int .i64 (7), .int .i64 (25)]) (.int .i64 0)).run Tryz.prog w = .ok (.agg #[.int .i64 (4), .int .i64 (3), .int .i64 (5)]) w := fun _ => by kernel_rfl
  have x1 : ∀ w : World, (Instr.index 238 (.agg #[.int .i64 (4), .int .i64 (3), .int .i64 (5), .int .i64 (12), .int .i64 (5), .int .i64 (13), .int .i64 (15), .int .i64 (8), .int .i64 (17), .int .i64 (24), .int .i64 (7), .int .i64 (25)]) (.int .i64 1)).run Tryz.prog w = .ok (.agg #[.int .i64 (12), .int .i64 (5), .int .i64 (13)]) w := fun _ => by kernel_rfl
  have x2 : ∀ w : World, (Instr.index 238 (.agg #[.int .i64 (4), .int .i64 (3), .int .i64 (5), .int .i64 (12), .int .i64 (5), .int .i64 (13), .int .i64 (15), .int .i64 (8), .int .i64 (17), .int .i64 (24), .int .i64 (7), .int .i64 (25)]) (.int .i64 2)).run Tryz.prog w = .ok (.agg #[.int .i64 (15), .int .i64 (8), .int .i64 (17)]) w := fun _ => by kernel_rfl
  have x3 : ∀ w : World, (Instr.index 238 (.agg #[.int .i64 (4), .int .i64 (3), .int .i64 (5), .int .i64 (12), .int .i64 (5), .int .i64 (13), .int .i64 (15), .int .i64 (8), .int .i64 (17), .int .i64 (24), .int .i64 (7), .int .i64 (25)]) (.int .i64 3)).run Tryz.prog w = .ok (.agg #[.int .i64 (24), .int .i64 (7), .int .i64 (25)]) w := fun _ => by kernel_rfl
  go_loopw [19, 2] (fun i n wr => ∃ k : Nat, k ≤ 4 ∧ i = .int .i64 k ∧ n = .int .i64 ((4 + 8 * k : Nat) : Int) ∧ Ext w wr ∧ Whole wr w.heap.size Tryz.zeroCells198 198 ∧ Whole wr (w.heap.size + 1) (tabC (4 + 8 * k)) 198) (fun i _ _ => 4 - (intOf i).toNat)
  case atStart => exact ⟨0, by omega, rfl, rfl, kx, k0, k1⟩
  case round =>
    obtain ⟨k, hk, rfl, rfl, kx, k0, k1⟩ := hrel
    have K0 := Lib.hid k0
    have K1 := Lib.hid k1
    have Kx := Lib.hid kx
    clear k0 k1 kx
    obtain ⟨wo, rfl⟩ : ∃ wo : World, wo = wr := ⟨_, rfl⟩
    rcases (by omega : k = 0 ∨ k = 1 ∨ k = 2 ∨ k = 3 ∨ k = 4) with rfl | rfl | rfl | rfl | rfl
    · skip
      clear x0 x1 x2 x3
      have x0 : ∀ w : World, (Instr.index 238 (.agg #[.int .i64 (4), .int .i64 (3), .int .i64 (5), .int .i64 (12), .int .i64 (5), .int .i64 (13), .int .i64 (15), .int .i64 (8), .int .i64 (17), .int .i64 (24), .int .i64 (7), .int .i64 (25)]) (.int .i64 0)).run Tryz.prog w = .ok (.agg #[.int .i64 (4), .int .i64 (3), .int .i64 (5)]) w := fun _ => by kernel_rfl
      have y0 : ∀ w : World, (Instr.index 239 (.agg #[.int .i64 (-4), .int .i64 (-3), .int .i64 (3), .int .i64 (4)]) (.int .i64 0)).run Tryz.prog w = .ok (.int .i64 (-4)) w := fun _ => by kernel_rfl
      have y1 : ∀ w : World, (Instr.index 239 (.agg #[.int .i64 (-4), .int .i64 (-3), .int .i64 (3), .int .i64 (4)]) (.int .i64 1)).run Tryz.prog w = .ok (.int .i64 (-3)) w := fun _ => by kernel_rfl
      have y2 : ∀ w : World, (Instr.index 239 (.agg #[.int .i64 (-4), .int .i64 (-3), .int .i64 (3), .int .i64 (4)]) (.int .i64 2)).run Tryz.prog w = .ok (.int .i64 (3)) w := fun _ => by kernel_rfl
      have y3 : ∀ w : World, (Instr.index 239 (.agg #[.int .i64 (-4), .int .i64 (-3), .int .i64 (3), .int .i64 (4)]) (.int .i64 3)).run Tryz.prog w = .ok (.int .i64 (4)) w := fun _ => by kernel_rfl
      go_wp2
      have hx4 : Ext wo (wo.alloc (.cells #[.int .i64 4, .int .i64 3, .int .i64 5] 197)) := by simp
      have k4 : Whole (wo.alloc (.cells #[.int .i64 4, .int .i64 3, .int .i64 5] 197)) wo.heap.size #[.int .i64 4, .int .i64 3, .int .i64 5] 197 := Whole.new rfl
      have k0 := K0.out.ext hx4
      have k1 := K1.out.ext hx4
      have kx := Kx.out.trans hx4
      generalize (wo.alloc (.cells #[.int .i64 4, .int .i64 3, .int .i64 5] 197)) = W4 at *
      have k1 : Whole W4 (w.heap.size + 1) (tabC 4) 198 := k1
      have hg4 : w.heap.size + 1 < wo.heap.size := K1.out.blk.lt
      generalize wo.heap.size = g4 at *
      simp only [show ((4 + 8 * 0 : Nat) : Int) = 4 from rfl, show ((0 : Nat) : Int) = 0 from rfl]
      clear K0 K1 Kx hx4
      go_loopw [34, 2] (fun i n wr => ∃ k : Nat, k ≤ 4 ∧ i = .int .i64 k ∧ n = .int .i64 ((4 + 2 * k : Nat) : Int) ∧ Ext w wr ∧ Whole wr w.heap.size Tryz.zeroCells198 198 ∧ Whole wr (w.heap.size + 1) (tabC (4 + 2 * k)) 198 ∧ Whole wr g4 #[.int .i64 4, .int .i64 3, .int .i64 5] 197) (fun i _ _ => 4 - (intOf i).toNat)
      case atStart => exact ⟨0, by omega, rfl, rfl, kx, k0, k1, k4⟩
      case round =>
        obtain ⟨k, hk, rfl, rfl, kx, k0, k1, k4⟩ := hrel
        obtain ⟨wp, rfl⟩ : ∃ wp : World, wp = wr := ⟨_, rfl⟩
        rcases (by omega : k = 0 ∨ k = 1 ∨ k = 2 ∨ k = 3 ∨ k = 4) with rfl | rfl | rfl | rfl | rfl
        · have x0 := k4.cell 0 rfl
          have x1 := k4.cell 1 rfl
          have x2 := k4.cell 2 rfl
          have hf := k1.free
          have c0 : wp.cell? ⟨w.heap.size + 1, 12, none⟩ = some (.int .i64 0) := k1.cell 12 (by kernel_rfl)
          have c1 : wp.cell? ⟨w.heap.size + 1, 13, none⟩ = some (.int .i64 0) := k1.cell 13 (by kernel_rfl)
          have c2 : wp.cell? ⟨w.heap.size + 1, 14, none⟩ = some (.int .i64 0) := k1.cell 14 (by kernel_rfl)
          have c3 : wp.cell? ⟨w.heap.size + 1, 15, none⟩ = some (.int .i64 0) := k1.cell 15 (by kernel_rfl)
          have c4 : wp.cell? ⟨w.heap.size + 1, 16, none⟩ = some (.int .i64 0) := k1.cell 16 (by kernel_rfl)
          have c5 : wp.cell? ⟨w.heap.size + 1, 17, none⟩ = some (.int .i64 0) := k1.cell 17 (by kernel_rfl)
          have K0 := Lib.hid k0
          have K1 := Lib.hid k1
          have K4 := Lib.hid k4
          have Kx := Lib.hid kx
          clear k0 k1 k4 kx
          simp only [show ((4 + 2 * 0 : Nat) : Int) = 4 from rfl, show ((0 : Nat) : Int) = 0 from rfl]
          go_wp2
          go_region
          have k0 := (((((((K0.out.farCell (k := w.heap.size + 1) (by omega) 12 (.int .i64 (-4))).farCell (k := w.heap.size + 1) (by omega) 13 (.int .i64 (-3))).farCell (k := w.heap.size + 1) (by omega) 14 (.int .i64 (5))).farCell (k := w.heap.size + 1) (by omega) 15 (.int .i64 (-4))).farCell (k := w.heap.size + 1) (by omega) 16 (.int .i64 (3))).farCell (k := w.heap.size + 1) (by omega) 17 (.int .i64 (5))).ext (Ext.refl _).drew)
          have k4 := (((((((K4.out.farCell (k := w.heap.size + 1) (by omega) 12 (.int .i64 (-4))).farCell (k := w.heap.size + 1) (by omega) 13 (.int .i64 (-3))).farCell (k := w.heap.size + 1) (by omega) 14 (.int .i64 (5))).farCell (k := w.heap.size + 1) (by omega) 15 (.int .i64 (-4))).farCell (k := w.heap.size + 1) (by omega) 16 (.int .i64 (3))).farCell (k := w.heap.size + 1) (by omega) 17 (.int .i64 (5))).ext (Ext.refl _).drew)
          have k1 := (((((((K1.out.setCell 12 (.int .i64 (-4))).setCell 13 (.int .i64 (-3))).setCell 14 (.int .i64 (5))).setCell 15 (.int .i64 (-4))).setCell 16 (.int .i64 (3))).setCell 17 (.int .i64 (5))).ext (Ext.refl _).drew)
          rw [show (((((((tabC (4 + 2 * 0)).setIfInBounds 12 (.int .i64 (-4))).setIfInBounds 13 (.int .i64 (-3))).setIfInBounds 14 (.int .i64 (5))).setIfInBounds 15 (.int .i64 (-4))).setIfInBounds 16 (.int .i64 (3))).setIfInBounds 17 (.int .i64 (5))) = tabC (4 + 2 * 1) by kernel_rfl] at k1
          have kx := ((((((((((((Kx.out).setCell (p := ⟨w.heap.size + 1, 12, none⟩) (by simp) (.int .i64 (-4)))).setCell (p := ⟨w.heap.size + 1, 13, none⟩) (by simp) (.int .i64 (-3)))).setCell (p := ⟨w.heap.size + 1, 14, none⟩) (by simp) (.int .i64 (5)))).setCell (p := ⟨w.heap.size + 1, 15, none⟩) (by simp) (.int .i64 (-4)))).setCell (p := ⟨w.heap.size + 1, 16, none⟩) (by simp) (.int .i64 (3)))).setCell (p := ⟨w.heap.size + 1, 17, none⟩) (by simp) (.int .i64 (5))).drew
          generalize (((((((wp.setCell ⟨w.heap.size + 1, 12, none⟩ (.int .i64 (-4))).setCell ⟨w.heap.size + 1, 13, none⟩ (.int .i64 (-3))).setCell ⟨w.heap.size + 1, 14, none⟩ (.int .i64 (5))).setCell ⟨w.heap.size + 1, 15, none⟩ (.int .i64 (-4))).setCell ⟨w.heap.size + 1, 16, none⟩ (.int .i64 (3))).setCell ⟨w.heap.size + 1, 17, none⟩ (.int .i64 (5)))).drew = wq at *
          clear x0 x1 x2 c0 c1 c2 c3 c4 c5 hf K0 K1 K4 Kx
          go_wp2
          go_roundw
          case rel => exact ⟨1, by omega, rfl, rfl, kx, k0, k1, k4⟩
          case measure => simp [intOf]
        · have x0 := k4.cell 0 rfl
          have x1 := k4.cell 1 rfl
          have x2 := k4.cell 2 rfl
          have hf := k1.free
          have c0 : wp.cell? ⟨w.heap.size + 1, 18, none⟩ = some (.int .i64 0) := k1.cell 18 (by kernel_rfl)
          have c1 : wp.cell? ⟨w.heap.size + 1, 19, none⟩ = some (.int .i64 0) := k1.cell 19 (by kernel_rfl)
          have c2 : wp.cell? ⟨w.heap.size + 1, 20, none⟩ = some (.int .i64 0) := k1.cell 20 (by kernel_rfl)
          have c3 : wp.cell? ⟨w.heap.size + 1, 21, none⟩ = some (.int .i64 0) := k1.cell 21 (by kernel_rfl)
          have c4 : wp.cell? ⟨w.heap.size + 1, 22, none⟩ = some (.int .i64 0) := k1.cell 22 (by kernel_rfl)
          have c5 : wp.cell? ⟨w.heap.size + 1, 23, none⟩ = some (.int .i64 0) := k1.cell 23 (by kernel_rfl)
          have K0 := Lib.hid k0
          have K1 := Lib.hid k1
          have K4 := Lib.hid k4
          have Kx := Lib.hid kx
          clear k0 k1 k4 kx
          simp only [show ((4 + 2 * 1 : Nat) : Int) = 6 from rfl, show ((1 : Nat) : Int) = 1 from rfl]
          go_wp2
          go_region
          have k0 := (((((((K0.out.farCell (k := w.heap.size + 1) (by omega) 18 (.int .i64 (-3))).farCell (k := w.heap.size + 1) (by omega) 19 (.int .i64 (-4))).farCell (k := w.heap.size + 1) (by omega) 20 (.int .i64 (5))).farCell (k := w.heap.size + 1) (by omega) 21 (.int .i64 (-3))).farCell (k := w.heap.size + 1) (by omega) 22 (.int .i64 (4))).farCell (k := w.heap.size + 1) (by omega) 23 (.int .i64 (5))).ext (Ext.refl _).drew)
          have k4 := (((((((K4.out.farCell (k := w.heap.size + 1) (by omega) 18 (.int .i64 (-3))).farCell (k := w.heap.size + 1) (by omega) 19 (.int .i64 (-4))).farCell (k := w.heap.size + 1) (by omega) 20 (.int .i64 (5))).farCell (k := w.heap.size + 1) (by omega) 21 (.int .i64 (-3))).farCell (k := w.heap.size + 1) (by omega) 22 (.int .i64 (4))).farCell (k := w.heap.size + 1) (by omega) 23 (.int .i64 (5))).ext (Ext.refl _).drew)
          have k1 := (((((((K1.out.setCell 18 (.int .i64 (-3))).setCell 19 (.int .i64 (-4))).setCell 20 (.int .i64 (5))).setCell 21 (.int .i64 (-3))).setCell 22 (.int .i64 (4))).setCell 23 (.int .i64 (5))).ext (Ext.refl _).drew)
          rw [show (((((((tabC (4 + 2 * 1)).setIfInBounds 18 (.int .i64 (-3))).setIfInBounds 19 (.int .i64 (-4))).setIfInBounds 20 (.int .i64 (5))).setIfInBounds 21 (.int .i64 (-3))).setIfInBounds 22 (.int .i64 (4))).setIfInBounds 23 (.int .i64 (5))) = tabC (4 + 2 * 2) by kernel_rfl] at k1
          have kx := ((((((((((((Kx.out).setCell (p := ⟨w.heap.size + 1, 18, none⟩) (by simp) (.int .i64 (-3)))).setCell (p := ⟨w.heap.size + 1, 19, none⟩) (by simp) (.int .i64 (-4)))).setCell (p := ⟨w.heap.size + 1, 20, none⟩) (by simp) (.int .i64 (5)))).setCell (p := ⟨w.heap.size + 1, 21, none⟩) (by simp) (.int .i64 (-3)))).setCell (p := ⟨w.heap.size + 1, 22, none⟩) (by simp) (.int .i64 (4)))).setCell (p := ⟨w.heap.size + 1, 23, none⟩) (by simp) (.int .i64 (5))).drew
          generalize (((((((wp.setCell ⟨w.heap.size + 1, 18, none⟩ (.int .i64 (-3))).setCell ⟨w.heap.size + 1, 19, none⟩ (.int .i64 (-4))).setCell ⟨w.heap.size + 1, 20, none⟩ (.int .i64 (5))).setCell ⟨w.heap.size + 1, 21, none⟩ (.int .i64 (-3))).setCell ⟨w.heap.size + 1, 22, none⟩ (.int .i64 (4))).setCell ⟨w.heap.size + 1, 23, none⟩ (.int .i64 (5)))).drew = wq at *
          clear x0 x1 x2 c0 c1 c2 c3 c4 c5 hf K0 K1 K4 Kx
          go_wp2
          go_roundw
          case rel => exact ⟨2, by omega, rfl, rfl, kx, k0, k1, k4⟩
          case measure => simp [intOf]
        · have x0 := k4.cell 0 rfl
          have x1 := k4.cell 1 rfl
          have x2 := k4.cell 2 rfl
          have hf := k1.free
          have c0 : wp.cell? ⟨w.heap.size + 1, 24, none⟩ = some (.int .i64 0) := k1.cell 24 (by kernel_rfl)
          have c1 : wp.cell? ⟨w.heap.size + 1, 25, none⟩ = some (.int .i64 0) := k1.cell 25 (by kernel_rfl)
          have c2 : wp.cell? ⟨w.heap.size + 1, 26, none⟩ = some (.int .i64 0) := k1.cell 26 (by kernel_rfl)
          have c3 : wp.cell? ⟨w.heap.size + 1, 27, none⟩ = some (.int .i64 0) := k1.cell 27 (by kernel_rfl)
          have c4 : wp.cell? ⟨w.heap.size + 1, 28, none⟩ = some (.int .i64 0) := k1.cell 28 (by kernel_rfl)
          have c5 : wp.cell? ⟨w.heap.size + 1, 29, none⟩ = some (.int .i64 0) := k1.cell 29 (by kernel_rfl)
          have K0 := Lib.hid k0
          have K1 := Lib.hid k1
          have K4 := Lib.hid k4
          have Kx := Lib.hid kx
          clear k0 k1 k4 kx
          simp only [show ((4 + 2 * 2 : Nat) : Int) = 8 from rfl, show ((2 : Nat) : Int) = 2 from rfl]
          go_wp2
          go_region
          have k0 := (((((((K0.out.farCell (k := w.heap.size + 1) (by omega) 24 (.int .i64 (3))).farCell (k := w.heap.size + 1) (by omega) 25 (.int .i64 (-4))).farCell (k := w.heap.size + 1) (by omega) 26 (.int .i64 (5))).farCell (k := w.heap.size + 1) (by omega) 27 (.int .i64 (3))).farCell (k := w.heap.size + 1) (by omega) 28 (.int .i64 (4))).farCell (k := w.heap.size + 1) (by omega) 29 (.int .i64 (5))).ext (Ext.refl _).drew)
          have k4 := (((((((K4.out.farCell (k := w.heap.size + 1) (by omega) 24 (.int .i64 (3))).farCell (k := w.heap.size + 1) (by omega) 25 (.int .i64 (-4))).farCell (k := w.heap.size + 1) (by omega) 26 (.int .i64 (5))).farCell (k := w.heap.size + 1) (by omega) 27 (.int .i64 (3))).farCell (k := w.heap.size + 1) (by omega) 28 (.int .i64 (4))).farCell (k := w.heap.size + 1) (by omega) 29 (.int .i64 (5))).ext (Ext.refl _).drew)
          have k1 := (((((((K1.out.setCell 24 (.int .i64 (3))).setCell 25 (.int .i64 (-4))).setCell 26 (.int .i64 (5))).setCell 27 (.int .i64 (3))).setCell 28 (.int .i64 (4))).setCell 29 (.int .i64 (5))).ext (Ext.refl _).drew)
          rw [show (((((((tabC (4 + 2 * 2)).setIfInBounds 24 (.int .i64 (3))).setIfInBounds 25 (.int .i64 (-4))).setIfInBounds 26 (.int .i64 (5))).setIfInBounds 27 (.int .i64 (3))).setIfInBounds 28 (.int .i64 (4))).setIfInBounds 29 (.int .i64 (5))) = tabC (4 + 2 * 3) by kernel_rfl] at k1
          have kx := ((((((((((((Kx.out).setCell (p := ⟨w.heap.size + 1, 24, none⟩) (by simp) (.int .i64 (3)))).setCell (p := ⟨w.heap.size + 1, 25, none⟩) (by simp) (.int .i64 (-4)))).setCell (p := ⟨w.heap.size + 1, 26, none⟩) (by simp) (.int .i64 (5)))).setCell (p := ⟨w.heap.size + 1, 27, none⟩) (by simp) (.int .i64 (3)))).setCell (p := ⟨w.heap.size + 1, 28, none⟩) (by simp) (.int .i64 (4)))).setCell (p := ⟨w.heap.size + 1, 29, none⟩) (by simp) (.int .i64 (5))).drew
          generalize (((((((wp.setCell ⟨w.heap.size + 1, 24, none⟩ (.int .i64 (3))).setCell ⟨w.heap.size + 1, 25, none⟩ (.int .i64 (-4))).setCell ⟨w.heap.size + 1, 26, none⟩ (.int .i64 (5))).setCell ⟨w.heap.size + 1, 27, none⟩ (.int .i64 (3))).setCell ⟨w.heap.size + 1, 28, none⟩ (.int .i64 (4))).setCell ⟨w.heap.size + 1, 29, none⟩ (.int .i64 (5)))).drew = wq at *
          clear x0 x1 x2 c0 c1 c2 c3 c4 c5 hf K0 K1 K4 Kx
          go_wp2
          go_roundw
          case rel => exact ⟨3, by omega, rfl, rfl, kx, k0, k1, k4⟩
          case measure => simp [intOf]
        · have x0 := k4.cell 0 rfl
          have x1 := k4.cell 1 rfl
          have x2 := k4.cell 2 rfl
          have hf := k1.free
          have c0 : wp.cell? ⟨w.heap.size + 1, 30, none⟩ = some (.int .i64 0) := k1.cell 30 (by kernel_rfl)
          have c1 : wp.cell? ⟨w.heap.size + 1, 31, none⟩ = some (.int .i64 0) := k1.cell 31 (by kernel_rfl)
          have c2 : wp.cell? ⟨w.heap.size + 1, 32, none⟩ = some (.int .i64 0) := k1.cell 32 (by kernel_rfl)
          have c3 : wp.cell? ⟨w.heap.size + 1, 33, none⟩ = some (.int .i64 0) := k1.cell 33 (by kernel_rfl)
          have c4 : wp.cell? ⟨w.heap.size + 1, 34, none⟩ = some (.int .i64 0) := k1.cell 34 (by kernel_rfl)
          have c5 : wp.cell? ⟨w.heap.size + 1, 35, none⟩ = some (.int .i64 0) := k1.cell 35 (by kernel_rfl)
          have K0 := Lib.hid k0
          have K1 := Lib.hid k1
          have K4 := Lib.hid k4
          have Kx := Lib.hid kx
          clear k0 k1 k4 kx
          simp only [show ((4 + 2 * 3 : Nat) : Int) = 10 from rfl, show ((3 : Nat) : Int) = 3 from rfl]
          go_wp2
          go_region
          have k0 := (((((((K0.out.farCell (k := w.heap.size + 1) (by omega) 30 (.int .i64 (4))).farCell (k := w.heap.size + 1) (by omega) 31 (.int .i64 (-3))).farCell (k := w.heap.size + 1) (by omega) 32 (.int .i64 (5))).farCell (k := w.heap.size + 1) (by omega) 33 (.int .i64 (4))).farCell (k := w.heap.size + 1) (by omega) 34 (.int .i64 (3))).farCell (k := w.heap.size + 1) (by omega) 35 (.int .i64 (5))).ext (Ext.refl _).drew)
          have k4 := (((((((K4.out.farCell (k := w.heap.size + 1) (by omega) 30 (.int .i64 (4))).farCell (k := w.heap.size + 1) (by omega) 31 (.int .i64 (-3))).farCell (k := w.heap.size + 1) (by omega) 32 (.int .i64 (5))).farCell (k := w.heap.size + 1) (by omega) 33 (.int .i64 (4))).farCell (k := w.heap.size + 1) (by omega) 34 (.int .i64 (3))).farCell (k := w.heap.size + 1) (by omega) 35 (.int .i64 (5))).ext (Ext.refl _).drew)
          have k1 := (((((((K1.out.setCell 30 (.int .i64 (4))).setCell 31 (.int .i64 (-3))).setCell 32 (.int .i64 (5))).setCell 33 (.int .i64 (4))).setCell 34 (.int .i64 (3))).setCell 35 (.int .i64 (5))).ext (Ext.refl _).drew)
          rw [show (((((((tabC (4 + 2 * 3)).setIfInBounds 30 (.int .i64 (4))).setIfInBounds 31 (.int .i64 (-3))).setIfInBounds 32 (.int .i64 (5))).setIfInBounds 33 (.int .i64 (4))).setIfInBounds 34 (.int .i64 (3))).setIfInBounds 35 (.int .i64 (5))) = tabC (4 + 2 * 4) by kernel_rfl] at k1
          have kx := ((((((((((((Kx.out).setCell (p := ⟨w.heap.size + 1, 30, none⟩) (by simp) (.int .i64 (4)))).setCell (p := ⟨w.heap.size + 1, 31, none⟩) (by simp) (.int .i64 (-3)))).setCell (p := ⟨w.heap.size + 1, 32, none⟩) (by simp) (.int .i64 (5)))).setCell (p := ⟨w.heap.size + 1, 33, none⟩) (by simp) (.int .i64 (4)))).setCell (p := ⟨w.heap.size + 1, 34, none⟩) (by simp) (.int .i64 (3)))).setCell (p := ⟨w.heap.size + 1, 35, none⟩) (by simp) (.int .i64 (5))).drew
          generalize (((((((wp.setCell ⟨w.heap.size + 1, 30, none⟩ (.int .i64 (4))).setCell ⟨w.heap.size + 1, 31, none⟩ (.int .i64 (-3))).setCell ⟨w.heap.size + 1, 32, none⟩ (.int .i64 (5))).setCell ⟨w.heap.size + 1, 33, none⟩ (.int .i64 (4))).setCell ⟨w.heap.size + 1, 34, none⟩ (.int .i64 (3))).setCell ⟨w.heap.size + 1, 35, none⟩ (.int .i64 (5)))).drew = wq at *
          clear x0 x1 x2 c0 c1 c2 c3 c4 c5 hf K0 K1 K4 Kx
          go_wp2
          go_roundw
          case rel => exact ⟨4, by omega, rfl, rfl, kx, k0, k1, k4⟩
          case measure => simp [intOf]
        · have k1 : Whole wp (w.heap.size + 1) (tabC 12) 198 := k1
          have hrow : TRow wp (some ⟨w.heap.size + 1, 12, none⟩) ((turns.drop 4).take 8) := k1.row 12 _ (by kernel_rfl)
          have hsrt : Calls Tryz.prog 134 #[.slice (some ⟨w.heap.size + 1, 12, none⟩) 8 8, .func (.func 135) #[] #[]] wp fun e w' => e = .returned (.tuple #[]) ∧ Ext wp w' := sort_turns _ 8 ((turns.drop 4).take 8) wp hrow (by decide) (sorted_of (by decide))
          have sl : ∀ (g : Nat) (w : World), (Instr.sliceAt 198 (.pointer (some ⟨g, 0, none⟩)) (some (.int .i64 4)) (some (.int .i64 12)) (some (.int .i64 12))).run Tryz.prog w = .ok (.slice (some ⟨g, 12, none⟩) 8 8) w := fun _ _ => by kernel_rfl
          have Hs := Lib.hid hsrt
          clear hsrt hrow
          simp only [show ((4 + 2 * 4 : Nat) : Int) = 12 from rfl, show ((4 : Nat) : Int) = 4 from rfl]
          go_wp2_with (go_at_call 134; refine Hs.out.mono ?_; rintro e w5 ⟨rfl, hx5⟩)
          go_roundw
          case rel => exact ⟨1, by omega, rfl, rfl, kx.trans hx5, k0.ext hx5, k1.ext hx5⟩
          case measure => simp [intOf]
    · skip
      clear x0 x1 x2 x3
      have x1 : ∀ w : World, (Instr.index 238 (.agg #[.int .i64 (4), .int .i64 (3), .int .i64 (5), .int .i64 (12), .int .i64 (5), .int .i64 (13), .int .i64 (15), .int .i64 (8), .int .i64 (17), .int .i64 (24), .int .i64 (7), .int .i64 (25)]) (.int .i64 1)).run Tryz.prog w = .ok (.agg #[.int .i64 (12), .int .i64 (5), .int .i64 (13)]) w := fun _ => by kernel_rfl
      have y0 : ∀ w : World, (Instr.index 239 (.agg #[.int .i64 (-12), .int .i64 (-5), .int .i64 (5), .int .i64 (12)]) (.int .i64 0)).run Tryz.prog w = .ok (.int .i64 (-12)) w := fun _ => by kernel_rfl
      have y1 : ∀ w : World, (Instr.index 239 (.agg #[.int .i64 (-12), .int .i64 (-5), .int .i64 (5), .int .i64 (12)]) (.int .i64 1)).run Tryz.prog w = .ok (.int .i64 (-5)) w := fun _ => by kernel_rfl
      have y2 : ∀ w : World, (Instr.index 239 (.agg #[.int .i64 (-12), .int .i64 (-5), .int .i64 (5), .int .i64 (12)]) (.int .i64 2)).run Tryz.prog w = .ok (.int .i64 (5)) w := fun _ => by kernel_rfl
      have y3 : ∀ w : World, (Instr.index 239 (.agg #[.int .i64 (-12), .int .i64 (-5), .int .i64 (5), .int .i64 (12)]) (.int .i64 3)).run Tryz.prog w = .ok (.int .i64 (12)) w := fun _ => by kernel_rfl
      go_wp2
      have hx4 : Ext wo (wo.alloc (.cells #[.int .i64 12, .int .i64 5, .int .i64 13] 197)) := by simp
      have k4 : Whole (wo.alloc (.cells #[.int .i64 12, .int .i64 5, .int .i64 13] 197)) wo.heap.size #[.int .i64 12, .int .i64 5, .int .i64 13] 197 := Whole.new rfl
      have k0 := K0.out.ext hx4
      have k1 := K1.out.ext hx4
      have kx := Kx.out.trans hx4
      generalize (wo.alloc (.cells #[.int .i64 12, .int .i64 5, .int .i64 13] 197)) = W4 at *
      have k1 : Whole W4 (w.heap.size + 1) (tabC 12) 198 := k1
      have hg4 : w.heap.size + 1 < wo.heap.size := K1.out.blk.lt
      generalize wo.heap.size = g4 at *
      simp only [show ((4 + 8 * 1 : Nat) : Int) = 12 from rfl, show ((1 : Nat) : Int) = 1 from rfl]
      clear K0 K1 Kx hx4
      go_loopw [34, 2] (fun i n wr => ∃ k : Nat, k ≤ 4 ∧ i = .int .i64 k ∧ n = .int .i64 ((12 + 2 * k : Nat) : Int) ∧ Ext w wr ∧ Whole wr w.heap.size Tryz.zeroCells198 198 ∧ Whole wr (w.heap.size + 1) (tabC (12 + 2 * k)) 198 ∧ Whole wr g4 #[.int .i64 12, .int .i64 5, .int .i64 13] 197) (fun i _ _ => 4 - (intOf i).toNat)
      case atStart => exact ⟨0, by omega, rfl, rfl, kx, k0, k1, k4⟩
      case round =>
        obtain ⟨k, hk, rfl, rfl, kx, k0, k1, k4⟩ := hrel
        obtain ⟨wp, rfl⟩ : ∃ wp : World, wp = wr := ⟨_, rfl⟩
        rcases (by omega : k = 0 ∨ k = 1 ∨ k = 2 ∨ k = 3 ∨ k = 4) with rfl | rfl | rfl | rfl | rfl
        · have x0 := k4.cell 0 rfl
          have x1 := k4.cell 1 rfl
          have x2 := k4.cell 2 rfl
          have hf := k1.free
          have c0 : wp.cell? ⟨w.heap.size + 1, 36, none⟩ = some (.int .i64 0) := k1.cell 36 (by kernel_rfl)
          have c1 : wp.cell? ⟨w.heap.size + 1, 37, none⟩ = some (.int .i64 0) := k1.cell 37 (by kernel_rfl)
          have c2 : wp.cell? ⟨w.heap.size + 1, 38, none⟩ = some (.int .i64 0) := k1.cell 38 (by kernel_rfl)
          have c3 : wp.cell? ⟨w.heap.size + 1, 39, none⟩ = some (.int .i64 0) := k1.cell 39 (by kernel_rfl)
          have c4 : wp.cell? ⟨w.heap.size + 1, 40, none⟩ = some (.int .i64 0) := k1.cell 40 (by kernel_rfl)
          have c5 : wp.cell? ⟨w.heap.size + 1, 41, none⟩ = some (.int .i64 0) := k1.cell 41 (by kernel_rfl)
          have K0 := Lib.hid k0
          have K1 := Lib.hid k1
          have K4 := Lib.hid k4
          have Kx := Lib.hid kx
          clear k0 k1 k4 kx
          simp only [show ((12 + 2 * 0 : Nat) : Int) = 12 from rfl, show ((0 : Nat) : Int) = 0 from rfl]
          go_wp2
          go_region
          have k0 := (((((((K0.out.farCell (k := w.heap.size + 1) (by omega) 36 (.int .i64 (-12))).farCell (k := w.heap.size + 1) (by omega) 37 (.int .i64 (-5))).farCell (k := w.heap.size + 1) (by omega) 38 (.int .i64 (13))).farCell (k := w.heap.size + 1) (by omega) 39 (.int .i64 (-12))).farCell (k := w.heap.size + 1) (by omega) 40 (.int .i64 (5))).farCell (k := w.heap.size + 1) (by omega) 41 (.int .i64 (13))).ext (Ext.refl _).drew)
          have k4 := (((((((K4.out.farCell (k := w.heap.size + 1) (by omega) 36 (.int .i64 (-12))).farCell (k := w.heap.size + 1) (by omega) 37 (.int .i64 (-5))).farCell (k := w.heap.size + 1) (by omega) 38 (.int .i64 (13))).farCell (k := w.heap.size + 1) (by omega) 39 (.int .i64 (-12))).farCell (k := w.heap.size + 1) (by omega) 40 (.int .i64 (5))).farCell (k := w.heap.size + 1) (by omega) 41 (.int .i64 (13))).ext (Ext.refl _).drew)
          have k1 := (((((((K1.out.setCell 36 (.int .i64 (-12))).setCell 37 (.int .i64 (-5))).setCell 38 (.int .i64 (13))).setCell 39 (.int .i64 (-12))).setCell 40 (.int .i64 (5))).setCell 41 (.int .i64 (13))).ext (Ext.refl _).drew)
          rw [show (((((((tabC (12 + 2 * 0)).setIfInBounds 36 (.int .i64 (-12))).setIfInBounds 37 (.int .i64 (-5))).setIfInBounds 38 (.int .i64 (13))).setIfInBounds 39 (.int .i64 (-12))).setIfInBounds 40 (.int .i64 (5))).setIfInBounds 41 (.int .i64 (13))) = tabC (12 + 2 * 1) by kernel_rfl] at k1
          have kx := ((((((((((((Kx.out).setCell (p := ⟨w.heap.size + 1, 36, none⟩) (by simp) (.int .i64 (-12)))).setCell (p := ⟨w.heap.size + 1, 37, none⟩) (by simp) (.int .i64 (-5)))).setCell (p := ⟨w.heap.size + 1, 38, none⟩) (by simp) (.int .i64 (13)))).setCell (p := ⟨w.heap.size + 1, 39, none⟩) (by simp) (.int .i64 (-12)))).setCell (p := ⟨w.heap.size + 1, 40, none⟩) (by simp) (.int .i64 (5)))).setCell (p := ⟨w.heap.size + 1, 41, none⟩) (by simp) (.int .i64 (13))).drew
          generalize (((((((wp.setCell ⟨w.heap.size + 1, 36, none⟩ (.int .i64 (-12))).setCell ⟨w.heap.size + 1, 37, none⟩ (.int .i64 (-5))).setCell ⟨w.heap.size + 1, 38, none⟩ (.int .i64 (13))).setCell ⟨w.heap.size + 1, 39, none⟩ (.int .i64 (-12))).setCell ⟨w.heap.size + 1, 40, none⟩ (.int .i64 (5))).setCell ⟨w.heap.size + 1, 41, none⟩ (.int .i64 (13)))).drew = wq at *
          clear x0 x1 x2 c0 c1 c2 c3 c4 c5 hf K0 K1 K4 Kx
          go_wp2
          go_roundw
          case rel => exact ⟨1, by omega, rfl, rfl, kx, k0, k1, k4⟩
          case measure => simp [intOf]
        · have x0 := k4.cell 0 rfl
          have x1 := k4.cell 1 rfl
          have x2 := k4.cell 2 rfl
          have hf := k1.free
          have c0 : wp.cell? ⟨w.heap.size + 1, 42, none⟩ = some (.int .i64 0) := k1.cell 42 (by kernel_rfl)
          have c1 : wp.cell? ⟨w.heap.size + 1, 43, none⟩ = some (.int .i64 0) := k1.cell 43 (by kernel_rfl)
          have c2 : wp.cell? ⟨w.heap.size + 1, 44, none⟩ = some (.int .i64 0) := k1.cell 44 (by kernel_rfl)
          have c3 : wp.cell? ⟨w.heap.size + 1, 45, none⟩ = some (.int .i64 0) := k1.cell 45 (by kernel_rfl)
          have c4 : wp.cell? ⟨w.heap.size + 1, 46, none⟩ = some (.int .i64 0) := k1.cell 46 (by kernel_rfl)
          have c5 : wp.cell? ⟨w.heap.size + 1, 47, none⟩ = some (.int .i64 0) := k1.cell 47 (by kernel_rfl)
          have K0 := Lib.hid k0
          have K1 := Lib.hid k1
          have K4 := Lib.hid k4
          have Kx := Lib.hid kx
          clear k0 k1 k4 kx
          simp only [show ((12 + 2 * 1 : Nat) : Int) = 14 from rfl, show ((1 : Nat) : Int) = 1 from rfl]
          go_wp2
          go_region
          have k0 := (((((((K0.out.farCell (k := w.heap.size + 1) (by omega) 42 (.int .i64 (-5))).farCell (k := w.heap.size + 1) (by omega) 43 (.int .i64 (-12))).farCell (k := w.heap.size + 1) (by omega) 44 (.int .i64 (13))).farCell (k := w.heap.size + 1) (by omega) 45 (.int .i64 (-5))).farCell (k := w.heap.size + 1) (by omega) 46 (.int .i64 (12))).farCell (k := w.heap.size + 1) (by omega) 47 (.int .i64 (13))).ext (Ext.refl _).drew)
          have k4 := (((((((K4.out.farCell (k := w.heap.size + 1) (by omega) 42 (.int .i64 (-5))).farCell (k := w.heap.size + 1) (by omega) 43 (.int .i64 (-12))).farCell (k := w.heap.size + 1) (by omega) 44 (.int .i64 (13))).farCell (k := w.heap.size + 1) (by omega) 45 (.int .i64 (-5))).farCell (k := w.heap.size + 1) (by omega) 46 (.int .i64 (12))).farCell (k := w.heap.size + 1) (by omega) 47 (.int .i64 (13))).ext (Ext.refl _).drew)
          have k1 := (((((((K1.out.setCell 42 (.int .i64 (-5))).setCell 43 (.int .i64 (-12))).setCell 44 (.int .i64 (13))).setCell 45 (.int .i64 (-5))).setCell 46 (.int .i64 (12))).setCell 47 (.int .i64 (13))).ext (Ext.refl _).drew)
          rw [show (((((((tabC (12 + 2 * 1)).setIfInBounds 42 (.int .i64 (-5))).setIfInBounds 43 (.int .i64 (-12))).setIfInBounds 44 (.int .i64 (13))).setIfInBounds 45 (.int .i64 (-5))).setIfInBounds 46 (.int .i64 (12))).setIfInBounds 47 (.int .i64 (13))) = tabC (12 + 2 * 2) by kernel_rfl] at k1
          have kx := ((((((((((((Kx.out).setCell (p := ⟨w.heap.size + 1, 42, none⟩) (by simp) (.int .i64 (-5)))).setCell (p := ⟨w.heap.size + 1, 43, none⟩) (by simp) (.int .i64 (-12)))).setCell (p := ⟨w.heap.size + 1, 44, none⟩) (by simp) (.int .i64 (13)))).setCell (p := ⟨w.heap.size + 1, 45, none⟩) (by simp) (.int .i64 (-5)))).setCell (p := ⟨w.heap.size + 1, 46, none⟩) (by simp) (.int .i64 (12)))).setCell (p := ⟨w.heap.size + 1, 47, none⟩) (by simp) (.int .i64 (13))).drew
          generalize (((((((wp.setCell ⟨w.heap.size + 1, 42, none⟩ (.int .i64 (-5))).setCell ⟨w.heap.size + 1, 43, none⟩ (.int .i64 (-12))).setCell ⟨w.heap.size + 1, 44, none⟩ (.int .i64 (13))).setCell ⟨w.heap.size + 1, 45, none⟩ (.int .i64 (-5))).setCell ⟨w.heap.size + 1, 46, none⟩ (.int .i64 (12))).setCell ⟨w.heap.size + 1, 47, none⟩ (.int .i64 (13)))).drew = wq at *
          clear x0 x1 x2 c0 c1 c2 c3 c4 c5 hf K0 K1 K4 Kx
          go_wp2
          go_roundw
          case rel => exact ⟨2, by omega, rfl, rfl, kx, k0, k1, k4⟩
          case measure => simp [intOf]
        · have x0 := k4.cell 0 rfl
          have x1 := k4.cell 1 rfl
          have x2 := k4.cell 2 rfl
          have hf := k1.free
          have c0 : wp.cell? ⟨w.heap.size + 1, 48, none⟩ = some (.int .i64 0) := k1.cell 48 (by kernel_rfl)
          have c1 : wp.cell? ⟨w.heap.size + 1, 49, none⟩ = some (.int .i64 0) := k1.cell 49 (by kernel_rfl)
          have c2 : wp.cell? ⟨w.heap.size + 1, 50, none⟩ = some (.int .i64 0) := k1.cell 50 (by kernel_rfl)
          have c3 : wp.cell? ⟨w.heap.size + 1, 51, none⟩ = some (.int .i64 0) := k1.cell 51 (by kernel_rfl)
          have c4 : wp.cell? ⟨w.heap.size + 1, 52, none⟩ = some (.int .i64 0) := k1.cell 52 (by kernel_rfl)
          have c5 : wp.cell? ⟨w.heap.size + 1, 53, none⟩ = some (.int .i64 0) := k1.cell 53 (by kernel_rfl)
          have K0 := Lib.hid k0
          have K1 := Lib.hid k1
          have K4 := Lib.hid k4
          have Kx := Lib.hid kx
          clear k0 k1 k4 kx
          simp only [show ((12 + 2 * 2 : Nat) : Int) = 16 from rfl, show ((2 : Nat) : Int) = 2 from rfl]
          go_wp2
          go_region
          have k0 := (((((((K0.out.farCell (k := w.heap.size + 1) (by omega) 48 (.int .i64 (5))).farCell (k := w.heap.size + 1) (by omega) 49 (.int .i64 (-12))).farCell (k := w.heap.size + 1) (by omega) 50 (.int .i64 (13))).farCell (k := w.heap.size + 1) (by omega) 51 (.int .i64 (5))).farCell (k := w.heap.size + 1) (by omega) 52 (.int .i64 (12))).farCell (k := w.heap.size + 1) (by omega) 53 (.int .i64 (13))).ext (Ext.refl _).drew)
          have k4 := (((((((K4.out.farCell (k := w.heap.size + 1) (by omega) 48 (.int .i64 (5))).farCell (k := w.heap.size + 1) (by omega) 49 (.int .i64 (-12))).farCell (k := w.heap.size + 1) (by omega) 50 (.int .i64 (13))).farCell (k := w.heap.size + 1) (by omega) 51 (.int .i64 (5))).farCell (k := w.heap.size + 1) (by omega) 52 (.int .i64 (12))).farCell (k := w.heap.size + 1) (by omega) 53 (.int .i64 (13))).ext (Ext.refl _).drew)
          have k1 := (((((((K1.out.setCell 48 (.int .i64 (5))).setCell 49 (.int .i64 (-12))).setCell 50 (.int .i64 (13))).setCell 51 (.int .i64 (5))).setCell 52 (.int .i64 (12))).setCell 53 (.int .i64 (13))).ext (Ext.refl _).drew)
          rw [show (((((((tabC (12 + 2 * 2)).setIfInBounds 48 (.int .i64 (5))).setIfInBounds 49 (.int .i64 (-12))).setIfInBounds 50 (.int .i64 (13))).setIfInBounds 51 (.int .i64 (5))).setIfInBounds 52 (.int .i64 (12))).setIfInBounds 53 (.int .i64 (13))) = tabC (12 + 2 * 3) by kernel_rfl] at k1
          have kx := ((((((((((((Kx.out).setCell (p := ⟨w.heap.size + 1, 48, none⟩) (by simp) (.int .i64 (5)))).setCell (p := ⟨w.heap.size + 1, 49, none⟩) (by simp) (.int .i64 (-12)))).setCell (p := ⟨w.heap.size + 1, 50, none⟩) (by simp) (.int .i64 (13)))).setCell (p := ⟨w.heap.size + 1, 51, none⟩) (by simp) (.int .i64 (5)))).setCell (p := ⟨w.heap.size + 1, 52, none⟩) (by simp) (.int .i64 (12)))).setCell (p := ⟨w.heap.size + 1, 53, none⟩) (by simp) (.int .i64 (13))).drew
          generalize (((((((wp.setCell ⟨w.heap.size + 1, 48, none⟩ (.int .i64 (5))).setCell ⟨w.heap.size + 1, 49, none⟩ (.int .i64 (-12))).setCell ⟨w.heap.size + 1, 50, none⟩ (.int .i64 (13))).setCell ⟨w.heap.size + 1, 51, none⟩ (.int .i64 (5))).setCell ⟨w.heap.size + 1, 52, none⟩ (.int .i64 (12))).setCell ⟨w.heap.size + 1, 53, none⟩ (.int .i64 (13)))).drew = wq at *
          clear x0 x1 x2 c0 c1 c2 c3 c4 c5 hf K0 K1 K4 Kx
          go_wp2
          go_roundw
          case rel => exact ⟨3, by omega, rfl, rfl, kx, k0, k1, k4⟩
          case measure => simp [intOf]
        · have x0 := k4.cell 0 rfl
          have x1 := k4.cell 1 rfl
          have x2 := k4.cell 2 rfl
          have hf := k1.free
          have c0 : wp.cell? ⟨w.heap.size + 1, 54, none⟩ = some (.int .i64 0) := k1.cell 54 (by kernel_rfl)
          have c1 : wp.cell? ⟨w.heap.size + 1, 55, none⟩ = some (.int .i64 0) := k1.cell 55 (by kernel_rfl)
          have c2 : wp.cell? ⟨w.heap.size + 1, 56, none⟩ = some (.int .i64 0) := k1.cell 56 (by kernel_rfl)
          have c3 : wp.cell? ⟨w.heap.size + 1, 57, none⟩ = some (.int .i64 0) := k1.cell 57 (by kernel_rfl)
          have c4 : wp.cell? ⟨w.heap.size + 1, 58, none⟩ = some (.int .i64 0) := k1.cell 58 (by kernel_rfl)
          have c5 : wp.cell? ⟨w.heap.size + 1, 59, none⟩ = some (.int .i64 0) := k1.cell 59 (by kernel_rfl)
          have K0 := Lib.hid k0
          have K1 := Lib.hid k1
          have K4 := Lib.hid k4
          have Kx := Lib.hid kx
          clear k0 k1 k4 kx
          simp only [show ((12 + 2 * 3 : Nat) : Int) = 18 from rfl, show ((3 : Nat) : Int) = 3 from rfl]
          go_wp2
          go_region
          have k0 := (((((((K0.out.farCell (k := w.heap.size + 1) (by omega) 54 (.int .i64 (12))).farCell (k := w.heap.size + 1) (by omega) 55 (.int .i64 (-5))).farCell (k := w.heap.size + 1) (by omega) 56 (.int .i64 (13))).farCell (k := w.heap.size + 1) (by omega) 57 (.int .i64 (12))).farCell (k := w.heap.size + 1) (by omega) 58 (.int .i64 (5))).farCell (k := w.heap.size + 1) (by omega) 59 (.int .i64 (13))).ext (Ext.refl _).drew)
          have k4 := (((((((K4.out.farCell (k := w.heap.size + 1) (by omega) 54 (.int .i64 (12))).farCell (k := w.heap.size + 1) (by omega) 55 (.int .i64 (-5))).farCell (k := w.heap.size + 1) (by omega) 56 (.int .i64 (13))).farCell (k := w.heap.size + 1) (by omega) 57 (.int .i64 (12))).farCell (k := w.heap.size + 1) (by omega) 58 (.int .i64 (5))).farCell (k := w.heap.size + 1) (by omega) 59 (.int .i64 (13))).ext (Ext.refl _).drew)
          have k1 := (((((((K1.out.setCell 54 (.int .i64 (12))).setCell 55 (.int .i64 (-5))).setCell 56 (.int .i64 (13))).setCell 57 (.int .i64 (12))).setCell 58 (.int .i64 (5))).setCell 59 (.int .i64 (13))).ext (Ext.refl _).drew)
          rw [show (((((((tabC (12 + 2 * 3)).setIfInBounds 54 (.int .i64 (12))).setIfInBounds 55 (.int .i64 (-5))).setIfInBounds 56 (.int .i64 (13))).setIfInBounds 57 (.int .i64 (12))).setIfInBounds 58 (.int .i64 (5))).setIfInBounds 59 (.int .i64 (13))) = tabC (12 + 2 * 4) by kernel_rfl] at k1
          have kx := ((((((((((((Kx.out).setCell (p := ⟨w.heap.size + 1, 54, none⟩) (by simp) (.int .i64 (12)))).setCell (p := ⟨w.heap.size + 1, 55, none⟩) (by simp) (.int .i64 (-5)))).setCell (p := ⟨w.heap.size + 1, 56, none⟩) (by simp) (.int .i64 (13)))).setCell (p := ⟨w.heap.size + 1, 57, none⟩) (by simp) (.int .i64 (12)))).setCell (p := ⟨w.heap.size + 1, 58, none⟩) (by simp) (.int .i64 (5)))).setCell (p := ⟨w.heap.size + 1, 59, none⟩) (by simp) (.int .i64 (13))).drew
          generalize (((((((wp.setCell ⟨w.heap.size + 1, 54, none⟩ (.int .i64 (12))).setCell ⟨w.heap.size + 1, 55, none⟩ (.int .i64 (-5))).setCell ⟨w.heap.size + 1, 56, none⟩ (.int .i64 (13))).setCell ⟨w.heap.size + 1, 57, none⟩ (.int .i64 (12))).setCell ⟨w.heap.size + 1, 58, none⟩ (.int .i64 (5))).setCell ⟨w.heap.size + 1, 59, none⟩ (.int .i64 (13)))).drew = wq at *
          clear x0 x1 x2 c0 c1 c2 c3 c4 c5 hf K0 K1 K4 Kx
          go_wp2
          go_roundw
          case rel => exact ⟨4, by omega, rfl, rfl, kx, k0, k1, k4⟩
          case measure => simp [intOf]
        · have k1 : Whole wp (w.heap.size + 1) (tabC 20) 198 := k1
          have hrow : TRow wp (some ⟨w.heap.size + 1, 36, none⟩) ((turns.drop 12).take 8) := k1.row 36 _ (by kernel_rfl)
          have hsrt : Calls Tryz.prog 134 #[.slice (some ⟨w.heap.size + 1, 36, none⟩) 8 8, .func (.func 135) #[] #[]] wp fun e w' => e = .returned (.tuple #[]) ∧ Ext wp w' := sort_turns _ 8 ((turns.drop 12).take 8) wp hrow (by decide) (sorted_of (by decide))
          have sl : ∀ (g : Nat) (w : World), (Instr.sliceAt 198 (.pointer (some ⟨g, 0, none⟩)) (some (.int .i64 12)) (some (.int .i64 20)) (some (.int .i64 20))).run Tryz.prog w = .ok (.slice (some ⟨g, 36, none⟩) 8 8) w := fun _ _ => by kernel_rfl
          have Hs := Lib.hid hsrt
          clear hsrt hrow
          simp only [show ((12 + 2 * 4 : Nat) : Int) = 20 from rfl, show ((4 : Nat) : Int) = 4 from rfl]
          go_wp2_with (go_at_call 134; refine Hs.out.mono ?_; rintro e w5 ⟨rfl, hx5⟩)
          go_roundw
          case rel => exact ⟨2, by omega, rfl, rfl, kx.trans hx5, k0.ext hx5, k1.ext hx5⟩
          case measure => simp [intOf]
    · skip
      clear x0 x1 x2 x3
      have x2 : ∀ w : World, (Instr.index 238 (.agg #[.int .i64 (4), .int .i64 (3), .int .i64 (5), .int .i64 (12), .int .i64 (5), .int .i64 (13), .int .i64 (15), .int .i64 (8), .int .i64 (17), .int .i64 (24), .int .i64 (7), .int .i64 (25)]) (.int .i64 2)).run Tryz.prog w = .ok (.agg #[.int .i64 (15), .int .i64 (8), .int .i64 (17)]) w := fun _ => by kernel_rfl
      have y0 : ∀ w : World, (Instr.index 239 (.agg #[.int .i64 (-15), .int .i64 (-8), .int .i64 (8), .int .i64 (15)]) (.int .i64 0)).run Tryz.prog w = .ok (.int .i64 (-15)) w := fun _ => by kernel_rfl
      have y1 : ∀ w : World, (Instr.index 239 (.agg #[.int .i64 (-15), .int .i64 (-8), .int .i64 (8), .int .i64 (15)]) (.int .i64 1)).run Tryz.prog w = .ok (.int .i64 (-8)) w := fun _ => by kernel_rfl
      have y2 : ∀ w : World, (Instr.index 239 (.agg #[.int .i64 (-15), .int .i64 (-8), .int .i64 (8), .int .i64 (15)]) (.int .i64 2)).run Tryz.prog w = .ok (.int .i64 (8)) w := fun _ => by kernel_rfl
      have y3 : ∀ w : World, (Instr.index 239 (.agg #[.int .i64 (-15), .int .i64 (-8), .int .i64 (8), .int .i64 (15)]) (.int .i64 3)).run Tryz.prog w = .ok (.int .i64 (15)) w := fun _ => by kernel_rfl
      go_wp2
      have hx4 : Ext wo (wo.alloc (.cells #[.int .i64 15, .int .i64 8, .int .i64 17] 197)) := by simp
      have k4 : Whole (wo.alloc (.cells #[.int .i64 15, .int .i64 8, .int .i64 17] 197)) wo.heap.size #[.int .i64 15, .int .i64 8, .int .i64 17] 197 := Whole.new rfl
      have k0 := K0.out.ext hx4
      have k1 := K1.out.ext hx4
      have kx := Kx.out.trans hx4
      generalize (wo.alloc (.cells #[.int .i64 15, .int .i64 8, .int .i64 17] 197)) = W4 at *
      have k1 : Whole W4 (w.heap.size + 1) (tabC 20) 198 := k1
      have hg4 : w.heap.size + 1 < wo.heap.size := K1.out.blk.lt
      generalize wo.heap.size = g4 at *
      simp only [show ((4 + 8 * 2 : Nat) : Int) = 20 from rfl, show ((2 : Nat) : Int) = 2 from rfl]
      clear K0 K1 Kx hx4
      go_loopw [34, 2] (fun i n wr => ∃ k : Nat, k ≤ 4 ∧ i = .int .i64 k ∧ n = .int .i64 ((20 + 2 * k : Nat) : Int) ∧ Ext w wr ∧ Whole wr w.heap.size Tryz.zeroCells198 198 ∧ Whole wr (w.heap.size + 1) (tabC (20 + 2 * k)) 198 ∧ Whole wr g4 #[.int .i64 15, .int .i64 8, .int .i64 17] 197) (fun i _ _ => 4 - (intOf i).toNat)
      case atStart => exact ⟨0, by omega, rfl, rfl, kx, k0, k1, k4⟩
      case round =>
        obtain ⟨k, hk, rfl, rfl, kx, k0, k1, k4⟩ := hrel
        obtain ⟨wp, rfl⟩ : ∃ wp : World, wp = wr := ⟨_, rfl⟩
        rcases (by omega : k = 0 ∨ k = 1 ∨ k = 2 ∨ k = 3 ∨ k = 4) with rfl | rfl | rfl | rfl | rfl
        · have x0 := k4.cell 0 rfl
          have x1 := k4.cell 1 rfl
          have x2 := k4.cell 2 rfl
          have hf := k1.free
          have c0 : wp.cell? ⟨w.heap.size + 1, 60, none⟩ = some (.int .i64 0) := k1.cell 60 (by kernel_rfl)
          have c1 : wp.cell? ⟨w.heap.size + 1, 61, none⟩ = some (.int .i64 0) := k1.cell 61 (by kernel_rfl)
          have c2 : wp.cell? ⟨w.heap.size + 1, 62, none⟩ = some (.int .i64 0) := k1.cell 62 (by kernel_rfl)
          have c3 : wp.cell? ⟨w.heap.size + 1, 63, none⟩ = some (.int .i64 0) := k1.cell 63 (by kernel_rfl)
          have c4 : wp.cell? ⟨w.heap.size + 1, 64, none⟩ = some (.int .i64 0) := k1.cell 64 (by kernel_rfl)
          have c5 : wp.cell? ⟨w.heap.size + 1, 65, none⟩ = some (.int .i64 0) := k1.cell 65 (by kernel_rfl)
          have K0 := Lib.hid k0
          have K1 := Lib.hid k1
          have K4 := Lib.hid k4
          have Kx := Lib.hid kx
          clear k0 k1 k4 kx
          simp only [show ((20 + 2 * 0 : Nat) : Int) = 20 from rfl, show ((0 : Nat) : Int) = 0 from rfl]
          go_wp2
          go_region
          have k0 := (((((((K0.out.farCell (k := w.heap.size + 1) (by omega) 60 (.int .i64 (-15))).farCell (k := w.heap.size + 1) (by omega) 61 (.int .i64 (-8))).farCell (k := w.heap.size + 1) (by omega) 62 (.int .i64 (17))).farCell (k := w.heap.size + 1) (by omega) 63 (.int .i64 (-15))).farCell (k := w.heap.size + 1) (by omega) 64 (.int .i64 (8))).farCell (k := w.heap.size + 1) (by omega) 65 (.int .i64 (17))).ext (Ext.refl _).drew)
          have k4 := (((((((K4.out.farCell (k := w.heap.size + 1) (by omega) 60 (.int .i64 (-15))).farCell (k := w.heap.size + 1) (by omega) 61 (.int .i64 (-8))).farCell (k := w.heap.size + 1) (by omega) 62 (.int .i64 (17))).farCell (k := w.heap.size + 1) (by omega) 63 (.int .i64 (-15))).farCell (k := w.heap.size + 1) (by omega) 64 (.int .i64 (8))).farCell (k := w.heap.size + 1) (by omega) 65 (.int .i64 (17))).ext (Ext.refl _).drew)
          have k1 := (((((((K1.out.setCell 60 (.int .i64 (-15))).setCell 61 (.int .i64 (-8))).setCell 62 (.int .i64 (17))).setCell 63 (.int .i64 (-15))).setCell 64 (.int .i64 (8))).setCell 65 (.int .i64 (17))).ext (Ext.refl _).drew)
          rw [show (((((((tabC (20 + 2 * 0)).setIfInBounds 60 (.int .i64 (-15))).setIfInBounds 61 (.int .i64 (-8))).setIfInBounds 62 (.int .i64 (17))).setIfInBounds 63 (.int .i64 (-15))).setIfInBounds 64 (.int .i64 (8))).setIfInBounds 65 (.int .i64 (17))) = tabC (20 + 2 * 1) by kernel_rfl] at k1
          have kx := ((((((((((((Kx.out).setCell (p := ⟨w.heap.size + 1, 60, none⟩) (by simp) (.int .i64 (-15)))).setCell (p := ⟨w.heap.size + 1, 61, none⟩) (by simp) (.int .i64 (-8)))).setCell (p := ⟨w.heap.size + 1, 62, none⟩) (by simp) (.int .i64 (17)))).setCell (p := ⟨w.heap.size + 1, 63, none⟩) (by simp) (.int .i64 (-15)))).setCell (p := ⟨w.heap.size + 1, 64, none⟩) (by simp) (.int .i64 (8)))).setCell (p := ⟨w.heap.size + 1, 65, none⟩) (by simp) (.int .i64 (17))).drew
          generalize (((((((wp.setCell ⟨w.heap.size + 1, 60, none⟩ (.int .i64 (-15))).setCell ⟨w.heap.size + 1, 61, none⟩ (.int .i64 (-8))).setCell ⟨w.heap.size + 1, 62, none⟩ (.int .i64 (17))).setCell ⟨w.heap.size + 1, 63, none⟩ (.int .i64 (-15))).setCell ⟨w.heap.size + 1, 64, none⟩ (.int .i64 (8))).setCell ⟨w.heap.size + 1, 65, none⟩ (.int .i64 (17)))).drew = wq at *
          clear x0 x1 x2 c0 c1 c2 c3 c4 c5 hf K0 K1 K4 Kx
          go_wp2
          go_roundw
          case rel => exact ⟨1, by omega, rfl, rfl, kx, k0, k1, k4⟩
          case measure => simp [intOf]
        · have x0 := k4.cell 0 rfl
          have x1 := k4.cell 1 rfl
          have x2 := k4.cell 2 rfl
          have hf := k1.free
          have c0 : wp.cell? ⟨w.heap.size + 1, 66, none⟩ = some (.int .i64 0) := k1.cell 66 (by kernel_rfl)
          have c1 : wp.cell? ⟨w.heap.size + 1, 67, none⟩ = some (.int .i64 0) := k1.cell 67 (by kernel_rfl)
          have c2 : wp.cell? ⟨w.heap.size + 1, 68, none⟩ = some (.int .i64 0) := k1.cell 68 (by kernel_rfl)
          have c3 : wp.cell? ⟨w.heap.size + 1, 69, none⟩ = some (.int .i64 0) := k1.cell 69 (by kernel_rfl)
          have c4 : wp.cell? ⟨w.heap.size + 1, 70, none⟩ = some (.int .i64 0) := k1.cell 70 (by kernel_rfl)
          have c5 : wp.cell? ⟨w.heap.size + 1, 71, none⟩ = some (.int .i64 0) := k1.cell 71 (by kernel_rfl)
          have K0 := Lib.hid k0
          have K1 := Lib.hid k1
          have K4 := Lib.hid k4
          have Kx := Lib.hid kx
          clear k0 k1 k4 kx
          simp only [show ((20 + 2 * 1 : Nat) : Int) = 22 from rfl, show ((1 : Nat) : Int) = 1 from rfl]
          go_wp2
          go_region
          have k0 := (((((((K0.out.farCell (k := w.heap.size + 1) (by omega) 66 (.int .i64 (-8))).farCell (k := w.heap.size + 1) (by omega) 67 (.int .i64 (-15))).farCell (k := w.heap.size + 1) (by omega) 68 (.int .i64 (17))).farCell (k := w.heap.size + 1) (by omega) 69 (.int .i64 (-8))).farCell (k := w.heap.size + 1) (by omega) 70 (.int .i64 (15))).farCell (k := w.heap.size + 1) (by omega) 71 (.int .i64 (17))).ext (Ext.refl _).drew)
          have k4 := (((((((K4.out.farCell (k := w.heap.size + 1) (by omega) 66 (.int .i64 (-8))).farCell (k := w.heap.size + 1) (by omega) 67 (.int .i64 (-15))).farCell (k := w.heap.size + 1) (by omega) 68 (.int .i64 (17))).farCell (k := w.heap.size + 1) (by omega) 69 (.int .i64 (-8))).farCell (k := w.heap.size + 1) (by omega) 70 (.int .i64 (15))).farCell (k := w.heap.size + 1) (by omega) 71 (.int .i64 (17))).ext (Ext.refl _).drew)
          have k1 := (((((((K1.out.setCell 66 (.int .i64 (-8))).setCell 67 (.int .i64 (-15))).setCell 68 (.int .i64 (17))).setCell 69 (.int .i64 (-8))).setCell 70 (.int .i64 (15))).setCell 71 (.int .i64 (17))).ext (Ext.refl _).drew)
          rw [show (((((((tabC (20 + 2 * 1)).setIfInBounds 66 (.int .i64 (-8))).setIfInBounds 67 (.int .i64 (-15))).setIfInBounds 68 (.int .i64 (17))).setIfInBounds 69 (.int .i64 (-8))).setIfInBounds 70 (.int .i64 (15))).setIfInBounds 71 (.int .i64 (17))) = tabC (20 + 2 * 2) by kernel_rfl] at k1
          have kx := ((((((((((((Kx.out).setCell (p := ⟨w.heap.size + 1, 66, none⟩) (by simp) (.int .i64 (-8)))).setCell (p := ⟨w.heap.size + 1, 67, none⟩) (by simp) (.int .i64 (-15)))).setCell (p := ⟨w.heap.size + 1, 68, none⟩) (by simp) (.int .i64 (17)))).setCell (p := ⟨w.heap.size + 1, 69, none⟩) (by simp) (.int .i64 (-8)))).setCell (p := ⟨w.heap.size + 1, 70, none⟩) (by simp) (.int .i64 (15)))).setCell (p := ⟨w.heap.size + 1, 71, none⟩) (by simp) (.int .i64 (17))).drew
          generalize (((((((wp.setCell ⟨w.heap.size + 1, 66, none⟩ (.int .i64 (-8))).setCell ⟨w.heap.size + 1, 67, none⟩ (.int .i64 (-15))).setCell ⟨w.heap.size + 1, 68, none⟩ (.int .i64 (17))).setCell ⟨w.heap.size + 1, 69, none⟩ (.int .i64 (-8))).setCell ⟨w.heap.size + 1, 70, none⟩ (.int .i64 (15))).setCell ⟨w.heap.size + 1, 71, none⟩ (.int .i64 (17)))).drew = wq at *
          clear x0 x1 x2 c0 c1 c2 c3 c4 c5 hf K0 K1 K4 Kx
          go_wp2
          go_roundw
          case rel => exact ⟨2, by omega, rfl, rfl, kx, k0, k1, k4⟩
          case measure => simp [intOf]
        · have x0 := k4.cell 0 rfl
          have x1 := k4.cell 1 rfl
          have x2 := k4.cell 2 rfl
          have hf := k1.free
          have c0 : wp.cell? ⟨w.heap.size + 1, 72, none⟩ = some (.int .i64 0) := k1.cell 72 (by kernel_rfl)
          have c1 : wp.cell? ⟨w.heap.size + 1, 73, none⟩ = some (.int .i64 0) := k1.cell 73 (by kernel_rfl)
          have c2 : wp.cell? ⟨w.heap.size + 1, 74, none⟩ = some (.int .i64 0) := k1.cell 74 (by kernel_rfl)
          have c3 : wp.cell? ⟨w.heap.size + 1, 75, none⟩ = some (.int .i64 0) := k1.cell 75 (by kernel_rfl)
          have c4 : wp.cell? ⟨w.heap.size + 1, 76, none⟩ = some (.int .i64 0) := k1.cell 76 (by kernel_rfl)
          have c5 : wp.cell? ⟨w.heap.size + 1, 77, none⟩ = some (.int .i64 0) := k1.cell 77 (by kernel_rfl)
          have K0 := Lib.hid k0
          have K1 := Lib.hid k1
          have K4 := Lib.hid k4
          have Kx := Lib.hid kx
          clear k0 k1 k4 kx
          simp only [show ((20 + 2 * 2 : Nat) : Int) = 24 from rfl, show ((2 : Nat) : Int) = 2 from rfl]
          go_wp2
          go_region
          have k0 := (((((((K0.out.farCell (k := w.heap.size + 1) (by omega) 72 (.int .i64 (8))).farCell (k := w.heap.size + 1) (by omega) 73 (.int .i64 (-15))).farCell (k := w.heap.size + 1) (by omega) 74 (.int .i64 (17))).farCell (k := w.heap.size + 1) (by omega) 75 (.int .i64 (8))).farCell (k := w.heap.size + 1) (by omega) 76 (.int .i64 (15))).farCell (k := w.heap.size + 1) (by omega) 77 (.int .i64 (17))).ext (Ext.refl _).drew)
          have k4 := (((((((K4.out.farCell (k := w.heap.size + 1) (by omega) 72 (.int .i64 (8))).farCell (k := w.heap.size + 1) (by omega) 73 (.int .i64 (-15))).farCell (k := w.heap.size + 1) (by omega) 74 (.int .i64 (17))).farCell (k := w.heap.size + 1) (by omega) 75 (.int .i64 (8))).farCell (k := w.heap.size + 1) (by omega) 76 (.int .i64 (15))).farCell (k := w.heap.size + 1) (by omega) 77 (.int .i64 (17))).ext (Ext.refl _).drew)
          have k1 := (((((((K1.out.setCell 72 (.int .i64 (8))).setCell 73 (.int .i64 (-15))).setCell 74 (.int .i64 (17))).setCell 75 (.int .i64 (8))).setCell 76 (.int .i64 (15))).setCell 77 (.int .i64 (17))).ext (Ext.refl _).drew)
          rw [show (((((((tabC (20 + 2 * 2)).setIfInBounds 72 (.int .i64 (8))).setIfInBounds 73 (.int .i64 (-15))).setIfInBounds 74 (.int .i64 (17))).setIfInBounds 75 (.int .i64 (8))).setIfInBounds 76 (.int .i64 (15))).setIfInBounds 77 (.int .i64 (17))) = tabC (20 + 2 * 3) by kernel_rfl] at k1
          have kx := ((((((((((((Kx.out).setCell (p := ⟨w.heap.size + 1, 72, none⟩) (by simp) (.int .i64 (8)))).setCell (p := ⟨w.heap.size + 1, 73, none⟩) (by simp) (.int .i64 (-15)))).setCell (p := ⟨w.heap.size + 1, 74, none⟩) (by simp) (.int .i64 (17)))).setCell (p := ⟨w.heap.size + 1, 75, none⟩) (by simp) (.int .i64 (8)))).setCell (p := ⟨w.heap.size + 1, 76, none⟩) (by simp) (.int .i64 (15)))).setCell (p := ⟨w.heap.size + 1, 77, none⟩) (by simp) (.int .i64 (17))).drew
          generalize (((((((wp.setCell ⟨w.heap.size + 1, 72, none⟩ (.int .i64 (8))).setCell ⟨w.heap.size + 1, 73, none⟩ (.int .i64 (-15))).setCell ⟨w.heap.size + 1, 74, none⟩ (.int .i64 (17))).setCell ⟨w.heap.size + 1, 75, none⟩ (.int .i64 (8))).setCell ⟨w.heap.size + 1, 76, none⟩ (.int .i64 (15))).setCell ⟨w.heap.size + 1, 77, none⟩ (.int .i64 (17)))).drew = wq at *
          clear x0 x1 x2 c0 c1 c2 c3 c4 c5 hf K0 K1 K4 Kx
          go_wp2
          go_roundw
          case rel => exact ⟨3, by omega, rfl, rfl, kx, k0, k1, k4⟩
          case measure => simp [intOf]
        · have x0 := k4.cell 0 rfl
          have x1 := k4.cell 1 rfl
          have x2 := k4.cell 2 rfl
          have hf := k1.free
          have c0 : wp.cell? ⟨w.heap.size + 1, 78, none⟩ = some (.int .i64 0) := k1.cell 78 (by kernel_rfl)
          have c1 : wp.cell? ⟨w.heap.size + 1, 79, none⟩ = some (.int .i64 0) := k1.cell 79 (by kernel_rfl)
          have c2 : wp.cell? ⟨w.heap.size + 1, 80, none⟩ = some (.int .i64 0) := k1.cell 80 (by kernel_rfl)
          have c3 : wp.cell? ⟨w.heap.size + 1, 81, none⟩ = some (.int .i64 0) := k1.cell 81 (by kernel_rfl)
          have c4 : wp.cell? ⟨w.heap.size + 1, 82, none⟩ = some (.int .i64 0) := k1.cell 82 (by kernel_rfl)
          have c5 : wp.cell? ⟨w.heap.size + 1, 83, none⟩ = some (.int .i64 0) := k1.cell 83 (by kernel_rfl)
          have K0 := Lib.hid k0
          have K1 := Lib.hid k1
          have K4 := Lib.hid k4
          have Kx := Lib.hid kx
          clear k0 k1 k4 kx
          simp only [show ((20 + 2 * 3 : Nat) : Int) = 26 from rfl, show ((3 : Nat) : Int) = 3 from rfl]
          go_wp2
          go_region
          have k0 := (((((((K0.out.farCell (k := w.heap.size + 1) (by omega) 78 (.int .i64 (15))).farCell (k := w.heap.size + 1) (by omega) 79 (.int .i64 (-8))).farCell (k := w.heap.size + 1) (by omega) 80 (.int .i64 (17))).farCell (k := w.heap.size + 1) (by omega) 81 (.int .i64 (15))).farCell (k := w.heap.size + 1) (by omega) 82 (.int .i64 (8))).farCell (k := w.heap.size + 1) (by omega) 83 (.int .i64 (17))).ext (Ext.refl _).drew)
          have k4 := (((((((K4.out.farCell (k := w.heap.size + 1) (by omega) 78 (.int .i64 (15))).farCell (k := w.heap.size + 1) (by omega) 79 (.int .i64 (-8))).farCell (k := w.heap.size + 1) (by omega) 80 (.int .i64 (17))).farCell (k := w.heap.size + 1) (by omega) 81 (.int .i64 (15))).farCell (k := w.heap.size + 1) (by omega) 82 (.int .i64 (8))).farCell (k := w.heap.size + 1) (by omega) 83 (.int .i64 (17))).ext (Ext.refl _).drew)
          have k1 := (((((((K1.out.setCell 78 (.int .i64 (15))).setCell 79 (.int .i64 (-8))).setCell 80 (.int .i64 (17))).setCell 81 (.int .i64 (15))).setCell 82 (.int .i64 (8))).setCell 83 (.int .i64 (17))).ext (Ext.refl _).drew)
          rw [show (((((((tabC (20 + 2 * 3)).setIfInBounds 78 (.int .i64 (15))).setIfInBounds 79 (.int .i64 (-8))).setIfInBounds 80 (.int .i64 (17))).setIfInBounds 81 (.int .i64 (15))).setIfInBounds 82 (.int .i64 (8))).setIfInBounds 83 (.int .i64 (17))) = tabC (20 + 2 * 4) by kernel_rfl] at k1
          have kx := ((((((((((((Kx.out).setCell (p := ⟨w.heap.size + 1, 78, none⟩) (by simp) (.int .i64 (15)))).setCell (p := ⟨w.heap.size + 1, 79, none⟩) (by simp) (.int .i64 (-8)))).setCell (p := ⟨w.heap.size + 1, 80, none⟩) (by simp) (.int .i64 (17)))).setCell (p := ⟨w.heap.size + 1, 81, none⟩) (by simp) (.int .i64 (15)))).setCell (p := ⟨w.heap.size + 1, 82, none⟩) (by simp) (.int .i64 (8)))).setCell (p := ⟨w.heap.size + 1, 83, none⟩) (by simp) (.int .i64 (17))).drew
          generalize (((((((wp.setCell ⟨w.heap.size + 1, 78, none⟩ (.int .i64 (15))).setCell ⟨w.heap.size + 1, 79, none⟩ (.int .i64 (-8))).setCell ⟨w.heap.size + 1, 80, none⟩ (.int .i64 (17))).setCell ⟨w.heap.size + 1, 81, none⟩ (.int .i64 (15))).setCell ⟨w.heap.size + 1, 82, none⟩ (.int .i64 (8))).setCell ⟨w.heap.size + 1, 83, none⟩ (.int .i64 (17)))).drew = wq at *
          clear x0 x1 x2 c0 c1 c2 c3 c4 c5 hf K0 K1 K4 Kx
          go_wp2
          go_roundw
          case rel => exact ⟨4, by omega, rfl, rfl, kx, k0, k1, k4⟩
          case measure => simp [intOf]
        · have k1 : Whole wp (w.heap.size + 1) (tabC 28) 198 := k1
          have hrow : TRow wp (some ⟨w.heap.size + 1, 60, none⟩) ((turns.drop 20).take 8) := k1.row 60 _ (by kernel_rfl)
          have hsrt : Calls Tryz.prog 134 #[.slice (some ⟨w.heap.size + 1, 60, none⟩) 8 8, .func (.func 135) #[] #[]] wp fun e w' => e = .returned (.tuple #[]) ∧ Ext wp w' := sort_turns _ 8 ((turns.drop 20).take 8) wp hrow (by decide) (sorted_of (by decide))
          have sl : ∀ (g : Nat) (w : World), (Instr.sliceAt 198 (.pointer (some ⟨g, 0, none⟩)) (some (.int .i64 20)) (some (.int .i64 28)) (some (.int .i64 28))).run Tryz.prog w = .ok (.slice (some ⟨g, 60, none⟩) 8 8) w := fun _ _ => by kernel_rfl
          have Hs := Lib.hid hsrt
          clear hsrt hrow
          simp only [show ((20 + 2 * 4 : Nat) : Int) = 28 from rfl, show ((4 : Nat) : Int) = 4 from rfl]
          go_wp2_with (go_at_call 134; refine Hs.out.mono ?_; rintro e w5 ⟨rfl, hx5⟩)
          go_roundw
          case rel => exact ⟨3, by omega, rfl, rfl, kx.trans hx5, k0.ext hx5, k1.ext hx5⟩
          case measure => simp [intOf]
    · skip
      clear x0 x1 x2 x3
      have x3 : ∀ w : World, (Instr.index 238 (.agg #[.int .i64 (4), .int .i64 (3), .int .i64 (5), .int .i64 (12), .int .i64 (5), .int .i64 (13), .int .i64 (15), .int .i64 (8), .int .i64 (17), .int .i64 (24), .int .i64 (7), .int .i64 (25)]) (.int .i64 3)).run Tryz.prog w = .ok (.agg #[.int .i64 (24), .int .i64 (7), .int .i64 (25)]) w := fun _ => by kernel_rfl
      have y0 : ∀ w : World, (Instr.index 239 (.agg #[.int .i64 (-24), .int .i64 (-7), .int .i64 (7), .int .i64 (24)]) (.int .i64 0)).run Tryz.prog w = .ok (.int .i64 (-24)) w := fun _ => by kernel_rfl
      have y1 : ∀ w : World, (Instr.index 239 (.agg #[.int .i64 (-24), .int .i64 (-7), .int .i64 (7), .int .i64 (24)]) (.int .i64 1)).run Tryz.prog w = .ok (.int .i64 (-7)) w := fun _ => by kernel_rfl
      have y2 : ∀ w : World, (Instr.index 239 (.agg #[.int .i64 (-24), .int .i64 (-7), .int .i64 (7), .int .i64 (24)]) (.int .i64 2)).run Tryz.prog w = .ok (.int .i64 (7)) w := fun _ => by kernel_rfl
      have y3 : ∀ w : World, (Instr.index 239 (.agg #[.int .i64 (-24), .int .i64 (-7), .int .i64 (7), .int .i64 (24)]) (.int .i64 3)).run Tryz.prog w = .ok (.int .i64 (24)) w := fun _ => by kernel_rfl
      go_wp2
      have hx4 : Ext wo (wo.alloc (.cells #[.int .i64 24, .int .i64 7, .int .i64 25] 197)) := by simp
      have k4 : Whole (wo.alloc (.cells #[.int .i64 24, .int .i64 7, .int .i64 25] 197)) wo.heap.size #[.int .i64 24, .int .i64 7, .int .i64 25] 197 := Whole.new rfl
      have k0 := K0.out.ext hx4
      have k1 := K1.out.ext hx4
      have kx := Kx.out.trans hx4
      generalize (wo.alloc (.cells #[.int .i64 24, .int .i64 7, .int .i64 25] 197)) = W4 at *
      have k1 : Whole W4 (w.heap.size + 1) (tabC 28) 198 := k1
      have hg4 : w.heap.size + 1 < wo.heap.size := K1.out.blk.lt
      generalize wo.heap.size = g4 at *
      simp only [show ((4 + 8 * 3 : Nat) : Int) = 28 from rfl, show ((3 : Nat) : Int) = 3 from rfl]
      clear K0 K1 Kx hx4
      go_loopw [34, 2] (fun i n wr => ∃ k : Nat, k ≤ 4 ∧ i = .int .i64 k ∧ n = .int .i64 ((28 + 2 * k : Nat) : Int) ∧ Ext w wr ∧ Whole wr w.heap.size Tryz.zeroCells198 198 ∧ Whole wr (w.heap.size + 1) (tabC (28 + 2 * k)) 198 ∧ Whole wr g4 #[.int .i64 24, .int .i64 7, .int .i64 25] 197) (fun i _ _ => 4 - (intOf i).toNat)
      case atStart => exact ⟨0, by omega, rfl, rfl, kx, k0, k1, k4⟩
      case round =>
        obtain ⟨k, hk, rfl, rfl, kx, k0, k1, k4⟩ := hrel
        obtain ⟨wp, rfl⟩ : ∃ wp : World, wp = wr := ⟨_, rfl⟩
        rcases (by omega : k = 0 ∨ k = 1 ∨ k = 2 ∨ k = 3 ∨ k = 4) with rfl | rfl | rfl | rfl | rfl
        · have x0 := k4.cell 0 rfl
          have x1 := k4.cell 1 rfl
          have x2 := k4.cell 2 rfl
          have hf := k1.free
          have c0 : wp.cell? ⟨w.heap.size + 1, 84, none⟩ = some (.int .i64 0) := k1.cell 84 (by kernel_rfl)
          have c1 : wp.cell? ⟨w.heap.size + 1, 85, none⟩ = some (.int .i64 0) := k1.cell 85 (by kernel_rfl)
          have c2 : wp.cell? ⟨w.heap.size + 1, 86, none⟩ = some (.int .i64 0) := k1.cell 86 (by kernel_rfl)
          have c3 : wp.cell? ⟨w.heap.size + 1, 87, none⟩ = some (.int .i64 0) := k1.cell 87 (by kernel_rfl)
          have c4 : wp.cell? ⟨w.heap.size + 1, 88, none⟩ = some (.int .i64 0) := k1.cell 88 (by kernel_rfl)
          have c5 : wp.cell? ⟨w.heap.size + 1, 89, none⟩ = some (.int .i64 0) := k1.cell 89 (by kernel_rfl)
          have K0 := Lib.hid k0
          have K1 := Lib.hid k1
          have K4 := Lib.hid k4
          have Kx := Lib.hid kx
          clear k0 k1 k4 kx
          simp only [show ((28 + 2 * 0 : Nat) : Int) = 28 from rfl, show ((0 : Nat) : Int) = 0 from rfl]
          go_wp2
          go_region
          have k0 := (((((((K0.out.farCell (k := w.heap.size + 1) (by omega) 84 (.int .i64 (-24))).farCell (k := w.heap.size + 1) (by omega) 85 (.int .i64 (-7))).farCell (k := w.heap.size + 1) (by omega) 86 (.int .i64 (25))).farCell (k := w.heap.size + 1) (by omega) 87 (.int .i64 (-24))).farCell (k := w.heap.size + 1) (by omega) 88 (.int .i64 (7))).farCell (k := w.heap.size + 1) (by omega) 89 (.int .i64 (25))).ext (Ext.refl _).drew)
          have k4 := (((((((K4.out.farCell (k := w.heap.size + 1) (by omega) 84 (.int .i64 (-24))).farCell (k := w.heap.size + 1) (by omega) 85 (.int .i64 (-7))).farCell (k := w.heap.size + 1) (by omega) 86 (.int .i64 (25))).farCell (k := w.heap.size + 1) (by omega) 87 (.int .i64 (-24))).farCell (k := w.heap.size + 1) (by omega) 88 (.int .i64 (7))).farCell (k := w.heap.size + 1) (by omega) 89 (.int .i64 (25))).ext (Ext.refl _).drew)
          have k1 := (((((((K1.out.setCell 84 (.int .i64 (-24))).setCell 85 (.int .i64 (-7))).setCell 86 (.int .i64 (25))).setCell 87 (.int .i64 (-24))).setCell 88 (.int .i64 (7))).setCell 89 (.int .i64 (25))).ext (Ext.refl _).drew)
          rw [show (((((((tabC (28 + 2 * 0)).setIfInBounds 84 (.int .i64 (-24))).setIfInBounds 85 (.int .i64 (-7))).setIfInBounds 86 (.int .i64 (25))).setIfInBounds 87 (.int .i64 (-24))).setIfInBounds 88 (.int .i64 (7))).setIfInBounds 89 (.int .i64 (25))) = tabC (28 + 2 * 1) by kernel_rfl] at k1
          have kx := ((((((((((((Kx.out).setCell (p := ⟨w.heap.size + 1, 84, none⟩) (by simp) (.int .i64 (-24)))).setCell (p := ⟨w.heap.size + 1, 85, none⟩) (by simp) (.int .i64 (-7)))).setCell (p := ⟨w.heap.size + 1, 86, none⟩) (by simp) (.int .i64 (25)))).setCell (p := ⟨w.heap.size + 1, 87, none⟩) (by simp) (.int .i64 (-24)))).setCell (p := ⟨w.heap.size + 1, 88, none⟩) (by simp) (.int .i64 (7)))).setCell (p := ⟨w.heap.size + 1, 89, none⟩) (by simp) (.int .i64 (25))).drew
          generalize (((((((wp.setCell ⟨w.heap.size + 1, 84, none⟩ (.int .i64 (-24))).setCell ⟨w.heap.size + 1, 85, none⟩ (.int .i64 (-7))).setCell ⟨w.heap.size + 1, 86, none⟩ (.int .i64 (25))).setCell ⟨w.heap.size + 1, 87, none⟩ (.int .i64 (-24))).setCell ⟨w.heap.size + 1, 88, none⟩ (.int .i64 (7))).setCell ⟨w.heap.size + 1, 89, none⟩ (.int .i64 (25)))).drew = wq at *
          clear x0 x1 x2 c0 c1 c2 c3 c4 c5 hf K0 K1 K4 Kx
          go_wp2
          go_roundw
          case rel => exact ⟨1, by omega, rfl, rfl, kx, k0, k1, k4⟩
          case measure => simp [intOf]
        · have x0 := k4.cell 0 rfl
          have x1 := k4.cell 1 rfl
          have x2 := k4.cell 2 rfl
          have hf := k1.free
          have c0 : wp.cell? ⟨w.heap.size + 1, 90, none⟩ = some (.int .i64 0) := k1.cell 90 (by kernel_rfl)
          have c1 : wp.cell? ⟨w.heap.size + 1, 91, none⟩ = some (.int .i64 0) := k1.cell 91 (by kernel_rfl)
          have c2 : wp.cell? ⟨w.heap.size + 1, 92, none⟩ = some (.int .i64 0) := k1.cell 92 (by kernel_rfl)
          have c3 : wp.cell? ⟨w.heap.size + 1, 93, none⟩ = some (.int .i64 0) := k1.cell 93 (by kernel_rfl)
          have c4 : wp.cell? ⟨w.heap.size + 1, 94, none⟩ = some (.int .i64 0) := k1.cell 94 (by kernel_rfl)
          have c5 : wp.cell? ⟨w.heap.size + 1, 95, none⟩ = some (.int .i64 0) := k1.cell 95 (by kernel_rfl)
          have K0 := Lib.hid k0
          have K1 := Lib.hid k1
          have K4 := Lib.hid k4
          have Kx := Lib.hid kx
          clear k0 k1 k4 kx
          simp only [show ((28 + 2 * 1 : Nat) : Int) = 30 from rfl, show ((1 : Nat) : Int) = 1 from rfl]
          go_wp2
          go_region
          have k0 := (((((((K0.out.farCell (k := w.heap.size + 1) (by omega) 90 (.int .i64 (-7))).farCell (k := w.heap.size + 1) (by omega) 91 (.int .i64 (-24))).farCell (k := w.heap.size + 1) (by omega) 92 (.int .i64 (25))).farCell (k := w.heap.size + 1) (by omega) 93 (.int .i64 (-7))).farCell (k := w.heap.size + 1) (by omega) 94 (.int .i64 (24))).farCell (k := w.heap.size + 1) (by omega) 95 (.int .i64 (25))).ext (Ext.refl _).drew)
          have k4 := (((((((K4.out.farCell (k := w.heap.size + 1) (by omega) 90 (.int .i64 (-7))).farCell (k := w.heap.size + 1) (by omega) 91 (.int .i64 (-24))).farCell (k := w.heap.size + 1) (by omega) 92 (.int .i64 (25))).farCell (k := w.heap.size + 1) (by omega) 93 (.int .i64 (-7))).farCell (k := w.heap.size + 1) (by omega) 94 (.int .i64 (24))).farCell (k := w.heap.size + 1) (by omega) 95 (.int .i64 (25))).ext (Ext.refl _).drew)
          have k1 := (((((((K1.out.setCell 90 (.int .i64 (-7))).setCell 91 (.int .i64 (-24))).setCell 92 (.int .i64 (25))).setCell 93 (.int .i64 (-7))).setCell 94 (.int .i64 (24))).setCell 95 (.int .i64 (25))).ext (Ext.refl _).drew)
          rw [show (((((((tabC (28 + 2 * 1)).setIfInBounds 90 (.int .i64 (-7))).setIfInBounds 91 (.int .i64 (-24))).setIfInBounds 92 (.int .i64 (25))).setIfInBounds 93 (.int .i64 (-7))).setIfInBounds 94 (.int .i64 (24))).setIfInBounds 95 (.int .i64 (25))) = tabC (28 + 2 * 2) by kernel_rfl] at k1
          have kx := ((((((((((((Kx.out).setCell (p := ⟨w.heap.size + 1, 90, none⟩) (by simp) (.int .i64 (-7)))).setCell (p := ⟨w.heap.size + 1, 91, none⟩) (by simp) (.int .i64 (-24)))).setCell (p := ⟨w.heap.size + 1, 92, none⟩) (by simp) (.int .i64 (25)))).setCell (p := ⟨w.heap.size + 1, 93, none⟩) (by simp) (.int .i64 (-7)))).setCell (p := ⟨w.heap.size + 1, 94, none⟩) (by simp) (.int .i64 (24)))).setCell (p := ⟨w.heap.size + 1, 95, none⟩) (by simp) (.int .i64 (25))).drew
          generalize (((((((wp.setCell ⟨w.heap.size + 1, 90, none⟩ (.int .i64 (-7))).setCell ⟨w.heap.size + 1, 91, none⟩ (.int .i64 (-24))).setCell ⟨w.heap.size + 1, 92, none⟩ (.int .i64 (25))).setCell ⟨w.heap.size + 1, 93, none⟩ (.int .i64 (-7))).setCell ⟨w.heap.size + 1, 94, none⟩ (.int .i64 (24))).setCell ⟨w.heap.size + 1, 95, none⟩ (.int .i64 (25)))).drew = wq at *
          clear x0 x1 x2 c0 c1 c2 c3 c4 c5 hf K0 K1 K4 Kx
          go_wp2
          go_roundw
          case rel => exact ⟨2, by omega, rfl, rfl, kx, k0, k1, k4⟩
          case measure => simp [intOf]
        · have x0 := k4.cell 0 rfl
          have x1 := k4.cell 1 rfl
          have x2 := k4.cell 2 rfl
          have hf := k1.free
          have c0 : wp.cell? ⟨w.heap.size + 1, 96, none⟩ = some (.int .i64 0) := k1.cell 96 (by kernel_rfl)
          have c1 : wp.cell? ⟨w.heap.size + 1, 97, none⟩ = some (.int .i64 0) := k1.cell 97 (by kernel_rfl)
          have c2 : wp.cell? ⟨w.heap.size + 1, 98, none⟩ = some (.int .i64 0) := k1.cell 98 (by kernel_rfl)
          have c3 : wp.cell? ⟨w.heap.size + 1, 99, none⟩ = some (.int .i64 0) := k1.cell 99 (by kernel_rfl)
          have c4 : wp.cell? ⟨w.heap.size + 1, 100, none⟩ = some (.int .i64 0) := k1.cell 100 (by kernel_rfl)
          have c5 : wp.cell? ⟨w.heap.size + 1, 101, none⟩ = some (.int .i64 0) := k1.cell 101 (by kernel_rfl)
          have K0 := Lib.hid k0
          have K1 := Lib.hid k1
          have K4 := Lib.hid k4
          have Kx := Lib.hid kx
          clear k0 k1 k4 kx
          simp only [show ((28 + 2 * 2 : Nat) : Int) = 32 from rfl, show ((2 : Nat) : Int) = 2 from rfl]
          go_wp2
          go_region
          have k0 := (((((((K0.out.farCell (k := w.heap.size + 1) (by omega) 96 (.int .i64 (7))).farCell (k := w.heap.size + 1) (by omega) 97 (.int .i64 (-24))).farCell (k := w.heap.size + 1) (by omega) 98 (.int .i64 (25))).farCell (k := w.heap.size + 1) (by omega) 99 (.int .i64 (7))).farCell (k := w.heap.size + 1) (by omega) 100 (.int .i64 (24))).farCell (k := w.heap.size + 1) (by omega) 101 (.int .i64 (25))).ext (Ext.refl _).drew)
          have k4 := (((((((K4.out.farCell (k := w.heap.size + 1) (by omega) 96 (.int .i64 (7))).farCell (k := w.heap.size + 1) (by omega) 97 (.int .i64 (-24))).farCell (k := w.heap.size + 1) (by omega) 98 (.int .i64 (25))).farCell (k := w.heap.size + 1) (by omega) 99 (.int .i64 (7))).farCell (k := w.heap.size + 1) (by omega) 100 (.int .i64 (24))).farCell (k := w.heap.size + 1) (by omega) 101 (.int .i64 (25))).ext (Ext.refl _).drew)
          have k1 := (((((((K1.out.setCell 96 (.int .i64 (7))).setCell 97 (.int .i64 (-24))).setCell 98 (.int .i64 (25))).setCell 99 (.int .i64 (7))).setCell 100 (.int .i64 (24))).setCell 101 (.int .i64 (25))).ext (Ext.refl _).drew)
          rw [show (((((((tabC (28 + 2 * 2)).setIfInBounds 96 (.int .i64 (7))).setIfInBounds 97 (.int .i64 (-24))).setIfInBounds 98 (.int .i64 (25))).setIfInBounds 99 (.int .i64 (7))).setIfInBounds 100 (.int .i64 (24))).setIfInBounds 101 (.int .i64 (25))) = tabC (28 + 2 * 3) by kernel_rfl] at k1
          have kx := ((((((((((((Kx.out).setCell (p := ⟨w.heap.size + 1, 96, none⟩) (by simp) (.int .i64 (7)))).setCell (p := ⟨w.heap.size + 1, 97, none⟩) (by simp) (.int .i64 (-24)))).setCell (p := ⟨w.heap.size + 1, 98, none⟩) (by simp) (.int .i64 (25)))).setCell (p := ⟨w.heap.size + 1, 99, none⟩) (by simp) (.int .i64 (7)))).setCell (p := ⟨w.heap.size + 1, 100, none⟩) (by simp) (.int .i64 (24)))).setCell (p := ⟨w.heap.size + 1, 101, none⟩) (by simp) (.int .i64 (25))).drew
          generalize (((((((wp.setCell ⟨w.heap.size + 1, 96, none⟩ (.int .i64 (7))).setCell ⟨w.heap.size + 1, 97, none⟩ (.int .i64 (-24))).setCell ⟨w.heap.size + 1, 98, none⟩ (.int .i64 (25))).setCell ⟨w.heap.size + 1, 99, none⟩ (.int .i64 (7))).setCell ⟨w.heap.size + 1, 100, none⟩ (.int .i64 (24))).setCell ⟨w.heap.size + 1, 101, none⟩ (.int .i64 (25)))).drew = wq at *
          clear x0 x1 x2 c0 c1 c2 c3 c4 c5 hf K0 K1 K4 Kx
          go_wp2
          go_roundw
          case rel => exact ⟨3, by omega, rfl, rfl, kx, k0, k1, k4⟩
          case measure => simp [intOf]
        · have x0 := k4.cell 0 rfl
          have x1 := k4.cell 1 rfl
          have x2 := k4.cell 2 rfl
          have hf := k1.free
          have c0 : wp.cell? ⟨w.heap.size + 1, 102, none⟩ = some (.int .i64 0) := k1.cell 102 (by kernel_rfl)
          have c1 : wp.cell? ⟨w.heap.size + 1, 103, none⟩ = some (.int .i64 0) := k1.cell 103 (by kernel_rfl)
          have c2 : wp.cell? ⟨w.heap.size + 1, 104, none⟩ = some (.int .i64 0) := k1.cell 104 (by kernel_rfl)
          have c3 : wp.cell? ⟨w.heap.size + 1, 105, none⟩ = some (.int .i64 0) := k1.cell 105 (by kernel_rfl)
          have c4 : wp.cell? ⟨w.heap.size + 1, 106, none⟩ = some (.int .i64 0) := k1.cell 106 (by kernel_rfl)
          have c5 : wp.cell? ⟨w.heap.size + 1, 107, none⟩ = some (.int .i64 0) := k1.cell 107 (by kernel_rfl)
          have K0 := Lib.hid k0
          have K1 := Lib.hid k1
          have K4 := Lib.hid k4
          have Kx := Lib.hid kx
          clear k0 k1 k4 kx
          simp only [show ((28 + 2 * 3 : Nat) : Int) = 34 from rfl, show ((3 : Nat) : Int) = 3 from rfl]
          go_wp2
          go_region
          have k0 := (((((((K0.out.farCell (k := w.heap.size + 1) (by omega) 102 (.int .i64 (24))).farCell (k := w.heap.size + 1) (by omega) 103 (.int .i64 (-7))).farCell (k := w.heap.size + 1) (by omega) 104 (.int .i64 (25))).farCell (k := w.heap.size + 1) (by omega) 105 (.int .i64 (24))).farCell (k := w.heap.size + 1) (by omega) 106 (.int .i64 (7))).farCell (k := w.heap.size + 1) (by omega) 107 (.int .i64 (25))).ext (Ext.refl _).drew)
          have k4 := (((((((K4.out.farCell (k := w.heap.size + 1) (by omega) 102 (.int .i64 (24))).farCell (k := w.heap.size + 1) (by omega) 103 (.int .i64 (-7))).farCell (k := w.heap.size + 1) (by omega) 104 (.int .i64 (25))).farCell (k := w.heap.size + 1) (by omega) 105 (.int .i64 (24))).farCell (k := w.heap.size + 1) (by omega) 106 (.int .i64 (7))).farCell (k := w.heap.size + 1) (by omega) 107 (.int .i64 (25))).ext (Ext.refl _).drew)
          have k1 := (((((((K1.out.setCell 102 (.int .i64 (24))).setCell 103 (.int .i64 (-7))).setCell 104 (.int .i64 (25))).setCell 105 (.int .i64 (24))).setCell 106 (.int .i64 (7))).setCell 107 (.int .i64 (25))).ext (Ext.refl _).drew)
          rw [show (((((((tabC (28 + 2 * 3)).setIfInBounds 102 (.int .i64 (24))).setIfInBounds 103 (.int .i64 (-7))).setIfInBounds 104 (.int .i64 (25))).setIfInBounds 105 (.int .i64 (24))).setIfInBounds 106 (.int .i64 (7))).setIfInBounds 107 (.int .i64 (25))) = tabC (28 + 2 * 4) by kernel_rfl] at k1
          have kx := ((((((((((((Kx.out).setCell (p := ⟨w.heap.size + 1, 102, none⟩) (by simp) (.int .i64 (24)))).setCell (p := ⟨w.heap.size + 1, 103, none⟩) (by simp) (.int .i64 (-7)))).setCell (p := ⟨w.heap.size + 1, 104, none⟩) (by simp) (.int .i64 (25)))).setCell (p := ⟨w.heap.size + 1, 105, none⟩) (by simp) (.int .i64 (24)))).setCell (p := ⟨w.heap.size + 1, 106, none⟩) (by simp) (.int .i64 (7)))).setCell (p := ⟨w.heap.size + 1, 107, none⟩) (by simp) (.int .i64 (25))).drew
          generalize (((((((wp.setCell ⟨w.heap.size + 1, 102, none⟩ (.int .i64 (24))).setCell ⟨w.heap.size + 1, 103, none⟩ (.int .i64 (-7))).setCell ⟨w.heap.size + 1, 104, none⟩ (.int .i64 (25))).setCell ⟨w.heap.size + 1, 105, none⟩ (.int .i64 (24))).setCell ⟨w.heap.size + 1, 106, none⟩ (.int .i64 (7))).setCell ⟨w.heap.size + 1, 107, none⟩ (.int .i64 (25)))).drew = wq at *
          clear x0 x1 x2 c0 c1 c2 c3 c4 c5 hf K0 K1 K4 Kx
          go_wp2
          go_roundw
          case rel => exact ⟨4, by omega, rfl, rfl, kx, k0, k1, k4⟩
          case measure => simp [intOf]
        · have k1 : Whole wp (w.heap.size + 1) (tabC 36) 198 := k1
          have hrow : TRow wp (some ⟨w.heap.size + 1, 84, none⟩) ((turns.drop 28).take 8) := k1.row 84 _ (by kernel_rfl)
          have hsrt : Calls Tryz.prog 134 #[.slice (some ⟨w.heap.size + 1, 84, none⟩) 8 8, .func (.func 135) #[] #[]] wp fun e w' => e = .returned (.tuple #[]) ∧ Ext wp w' := sort_turns _ 8 ((turns.drop 28).take 8) wp hrow (by decide) (sorted_of (by decide))
          have sl : ∀ (g : Nat) (w : World), (Instr.sliceAt 198 (.pointer (some ⟨g, 0, none⟩)) (some (.int .i64 28)) (some (.int .i64 36)) (some (.int .i64 36))).run Tryz.prog w = .ok (.slice (some ⟨g, 84, none⟩) 8 8) w := fun _ _ => by kernel_rfl
          have Hs := Lib.hid hsrt
          clear hsrt hrow
          simp only [show ((28 + 2 * 4 : Nat) : Int) = 36 from rfl, show ((4 : Nat) : Int) = 4 from rfl]
          go_wp2_with (go_at_call 134; refine Hs.out.mono ?_; rintro e w5 ⟨rfl, hx5⟩)
          go_roundw
          case rel => exact ⟨4, by omega, rfl, rfl, kx.trans hx5, k0.ext hx5, k1.ext hx5⟩
          case measure => simp [intOf]
    · have k1 : Whole wo (w.heap.size + 1) (tabC 36) 198 := K1.out
      have k0 := K0.out
      clear x0 x1 x2 x3 K1 K0
      simp only [show ((4 : Nat) : Int) = 4 from rfl]
      go_wp2_with (first
        | (refine wpList_load_row rfl 198 (.tmp 1) rfl (w.heap.size + 1) rfl 198 (tabC 36) (0, 0) _ k1.h Tryz.underlying198 rfl (by kernel_rfl) ?_)
        | (refine wpList_store_row rfl 198 (.tmp 0) (.tmp 72) rfl w.heap.size (tabC 36) rfl (by kernel_rfl) 198 Tryz.zeroCells198 k0.h (by kernel_rfl) (by kernel_rfl) (by kernel_rfl) ?_))
      refine bodyPost_ret (results_cell_row rfl _ _ w.heap.size 198 (tabC 36) (0, 0) _ rfl k0.set.h Tryz.underlying198 rfl (by kernel_rfl)) rfl ?_
      exact ⟨by rw [show tabC 36 = (turns.flatMap tcells).toArray by kernel_rfl], Ext.setRow Kx.out (Nat.le_refl _)⟩
end Go.Proofs.YtebkhdhhajjhfaaGreat
