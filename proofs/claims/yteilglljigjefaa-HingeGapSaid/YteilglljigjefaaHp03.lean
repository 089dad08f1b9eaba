/- All angles, by the code. -/
import Derived.Laws.Tables
import Derived.Laws.Rows
import Derived.Laws.CopyOwn
import Derived.BigRegion
import Derived.RegionTactic
import Derived.Test.YteilglljigjefaaHp02
namespace Go.Proofs.Yteilglljigjefaa
open Go.RowKit
/-- The first m angles, and then none. -/
def tabC (m : Nat) : Array Value := ((turns.take m ++ List.replicate (36 - m) (0, 0, 0)).flatMap tcells).toArray
/-- A block is known whole. -/
structure Whole (w : World) (g : Nat) (cs : Array Value) (t : TypeId) : Prop where
  h : w.heap[g]? = some (.cells cs t)
theorem Whole.new {w : World} {cs : Array Value} {t : TypeId} {g : Nat} (hg : w.heap.size = g) : Whole (w.alloc (.cells cs t)) g cs t := by
  subst hg; exact ⟨Go.heap_alloc_new _ _⟩
theorem Whole.ext {w w' : World} {g : Nat} {cs : Array Value} {t : TypeId} (h : Whole w g cs t) (he : Ext w w') : Whole w' g cs t := ⟨he.heap h.h⟩
theorem Whole.set {w : World} {g : Nat} {cs ds : Array Value} {t : TypeId} (h : Whole w g cs t) : Whole (w.setRow g ds) g ds t := ⟨setRow_heap w g cs ds t _ h.h⟩
theorem Whole.other {w : World} {g k : Nat} {cs ds : Array Value} {t : TypeId} (h : Whole w g cs t) (hk : g ≠ k) : Whole (w.setRow k ds) g cs t := ⟨by rw [setRow_other w k g ds hk]; exact h.h⟩
theorem Whole.cell {w : World} {g : Nat} {cs : Array Value} {t : TypeId} (h : Whole w g cs t) (j : Nat) {v : Value} (hv : cs[j]? = some v) : w.cell? ⟨g, j, none⟩ = some v := by rw [cell_heap h.h, hv]
theorem Whole.free {w : World} {g : Nat} {cs : Array Value} {t : TypeId} (h : Whole w g cs t) (j : Nat) : w.frozen? ⟨g, j, none⟩ = false := frozen_of_row w g j cs t h.h
theorem Whole.setCell {w : World} {g : Nat} {cs : Array Value} {t : TypeId} (h : Whole w g cs t) (j : Nat) (v : Value) : Whole (w.setCell ⟨g, j, none⟩ v) g (cs.setIfInBounds j v) t := ⟨heap_setCell_same w g j cs t v h.h⟩
theorem Whole.farCell {w : World} {g k : Nat} {cs : Array Value} {t : TypeId} (h : Whole w g cs t) (hk : g ≠ k) (j : Nat) (v : Value) : Whole (w.setCell ⟨k, j, none⟩ v) g cs t := ⟨by rw [heap_setCell_other w _ _ _ hk]; exact h.h⟩
theorem Whole.blk {w : World} {g : Nat} {cs : Array Value} {t : TypeId} (h : Whole w g cs t) : Blk w g cs.toList :=
  ⟨fun j v hv => h.cell j (by simpa using hv), fun j => h.free j, (Array.getElem?_eq_some_iff.1 h.h).1⟩
theorem Whole.row {w : World} {g : Nat} {cs : Array Value} {t : TypeId} (h : Whole w g cs t) (off : Nat) (xs : List Value) (hx : (cs.toList.drop off).take xs.length = xs) : Row w (some ⟨g, off, none⟩) xs := fun k hk => by
  refine ⟨_, rfl, ?_⟩
  have e : (⟨g, off, none⟩ : Addr).add k = ⟨g, off + k, none⟩ := by unfold Addr.add; split <;> simp_all
  rw [e, cell_heap h.h, ← hx]
  rw [List.getElem?_take_of_lt hk, List.getElem?_drop, Array.getElem?_toList]
theorem sorted_of {l : List (Int × Int × Int)} (h : ∀ k, k < l.length - 1 → 0 ≤ cmpL (turnL (tAt l (k + 1))) (turnL (tAt l k))) : sortedT l := fun k h0 hk => by
  have := h (k - 1) (by omega)
  rwa [show k - 1 + 1 = k by omega] at this
theorem Ext.setRow {w0 w : World} {g : Nat} {ds : Array Value} (h : Ext w0 w) (hg : w0.heap.size ≤ g) : Ext w0 (w.setRow g ds) := below_setRow h hg ds

set_option maxRecDepth 100000 in
set_option maxHeartbeats 16000000 in
theorem table_any (w : World) : Calls Try.prog 52 #[] w fun e w' => e = .returned (.agg (turns.flatMap tcells).toArray) ∧ Ext w w' := by
  go_enter Try.func52, Try.ntmps52
  go_wp2_with (refine wpList_store_row rfl 99 (.tmp 1) (.tmp 13) rfl (w.heap.size + 1) (tabC 4) rfl (by kernel_rfl) 99 Try.zeroCells99 (Go.heap_alloc2_new _ _ _) (by kernel_rfl) (by kernel_rfl) (by kernel_rfl) ?_)
  have k0 : Whole (((w.alloc (Obj.cells Try.zeroCells99 99)).alloc (Obj.cells Try.zeroCells99 99)).setRow (w.heap.size + 1) (tabC 4)) w.heap.size Try.zeroCells99 99 := ((Whole.new rfl).ext ((Ext.refl _).alloc _)).other (by omega)
  have k1 : Whole (((w.alloc (Obj.cells Try.zeroCells99 99)).alloc (Obj.cells Try.zeroCells99 99)).setRow (w.heap.size + 1) (tabC 4)) (w.heap.size + 1) (tabC 4) 99 := Whole.set (cs := Try.zeroCells99) (Whole.new (by simp))
  have kx : Ext w (((w.alloc (Obj.cells Try.zeroCells99 99)).alloc (Obj.cells Try.zeroCells99 99)).setRow (w.heap.size + 1) (tabC 4)) := Ext.setRow (by simp) (by omega)
  generalize (((w.alloc (Obj.cells Try.zeroCells99 99)).alloc (Obj.cells Try.zeroCells99 99)).setRow (w.heap.size + 1) (tabC 4)) = W at *
  have x0 : ∀ w : World, (Instr.index 129 (.agg #[.int .i64 (4), .int .i64 (3), .int .i64 (5), .int .i64 (12), .int .i64 (5), .int .i64 (13), .int .i64 (15), .int .i64 (8), .int .i64 (17), .int .i64 (24), .int .i64 (7), .int .i64 (25)]) (.int .i64 0)).run Try.prog w = .ok (.agg #[.int .i64 (4), .int .i64 (3), .int .i64 (5)]) w := fun _ => by kernel_rfl
  have x1 : ∀ w : World, (Instr.index 129 (.agg #[.int .i64 (4), .int .i64 (3), .int .i64 (5), .int .i64 (12), .int .i64 (5), .int .i64 (13), .int .i64 (15), .int .i64 (8), .int .i64 (17), .int .i64 (24), .int .i64 (7), .int .i64 (25)]) (.int .i64 1)).run Try.prog w = .ok (.agg #[.int .i64 (12), .int .i64 (5), .int .i64 (13)]) w := fun _ => by kernel_rfl
  have x2 : ∀ w : World, (Instr.index 129 (.agg #[.int .i64 (4), .int .i64 (3), .int .i64 (5), .int .i64 (12), .int .i64 (5), .int .i64 (13), .int .i64 (15), .int .i64 (8), .int .i64 (17), .int .i64 (24), .int .i64 (7), .int .i64 (25)]) (.int .i64 2)).run Try.prog w = .ok (.agg #[.int .i64 (15), .int .i64 (8), .int .i64 (17)]) w := fun _ => by kernel_rfl
  have x3 : ∀ w : World, (Instr.index 129 (.agg #[.int .i64 (4), .int .i64 (3), .int .i64 (5), .int .i64 (12), .int .i64 (5), .int .i64 (13), .int .i64 (15), .int .i64 (8), .int .i64 (17), .int .i64 (24), .int .i64 (7), .int .i64 (25)]) (.int .i64 3)).run Try.prog w = .ok (.agg #[.int .i64 (24), .int .i64 (7), .int .i64 (25)]) w := fun _ => by kernel_rfl
  go_loopw [19, 2] (fun i n wr => ∃ k : Nat, k ≤ 4 ∧ i = .int .i64 k ∧ n = .int .i64 ((4 + 8 * k : Nat) : Int) ∧ Ext w wr ∧ Whole wr w.heap.size Try.zeroCells99 99 ∧ Whole wr (w.heap.size + 1) (tabC (4 + 8 * k)) 99) (fun i _ _ => 4 - (intOf i).toNat)
  case atStart => exact ⟨0, by omega, rfl, rfl, kx, k0, k1⟩
  case round =>
    obtain ⟨k, hk, rfl, rfl, kx, k0, k1⟩ := hrel
    have K0 := Lib.hid k0
    have K1 := Lib.hid k1
    have Kx := Lib.hid kx
    clear k0 k1 kx
    obtain ⟨wo, rfl⟩ : ∃ wo : World, wo = wr := ⟨_, rfl⟩
    rcases (by omega : k = 0 ∨ k = 1 ∨ k = 2 ∨ k = 3 ∨ k = 4) with rfl | rfl | rfl | rfl | rfl
    · skip
      clear x0 x1 x2 x3
      have x0 : ∀ w : World, (Instr.index 129 (.agg #[.int .i64 (4), .int .i64 (3), .int .i64 (5), .int .i64 (12), .int .i64 (5), .int .i64 (13), .int .i64 (15), .int .i64 (8), .int .i64 (17), .int .i64 (24), .int .i64 (7), .int .i64 (25)]) (.int .i64 0)).run Try.prog w = .ok (.agg #[.int .i64 (4), .int .i64 (3), .int .i64 (5)]) w := fun _ => by kernel_rfl
      have y0 : ∀ w : World, (Instr.index 130 (.agg #[.int .i64 (-4), .int .i64 (-3), .int .i64 (3), .int .i64 (4)]) (.int .i64 0)).run Try.prog w = .ok (.int .i64 (-4)) w := fun _ => by kernel_rfl
      have y1 : ∀ w : World, (Instr.index 130 (.agg #[.int .i64 (-4), .int .i64 (-3), .int .i64 (3), .int .i64 (4)]) (.int .i64 1)).run Try.prog w = .ok (.int .i64 (-3)) w := fun _ => by kernel_rfl
      have y2 : ∀ w : World, (Instr.index 130 (.agg #[.int .i64 (-4), .int .i64 (-3), .int .i64 (3), .int .i64 (4)]) (.int .i64 2)).run Try.prog w = .ok (.int .i64 (3)) w := fun _ => by kernel_rfl
      have y3 : ∀ w : World, (Instr.index 130 (.agg #[.int .i64 (-4), .int .i64 (-3), .int .i64 (3), .int .i64 (4)]) (.int .i64 3)).run Try.prog w = .ok (.int .i64 (4)) w := fun _ => by kernel_rfl
      go_wp2
      have hx4 : Ext wo (wo.alloc (.cells #[.int .i64 4, .int .i64 3, .int .i64 5] 98)) := by simp
      have k4 : Whole (wo.alloc (.cells #[.int .i64 4, .int .i64 3, .int .i64 5] 98)) wo.heap.size #[.int .i64 4, .int .i64 3, .int .i64 5] 98 := Whole.new rfl
      have k0 := K0.out.ext hx4
      have k1 := K1.out.ext hx4
      have kx := Kx.out.trans hx4
      generalize (wo.alloc (.cells #[.int .i64 4, .int .i64 3, .int .i64 5] 98)) = W4 at *
      have k1 : Whole W4 (w.heap.size + 1) (tabC 4) 99 := k1
      have hg4 : w.heap.size + 1 < wo.heap.size := K1.out.blk.lt
      generalize wo.heap.size = g4 at *
      simp only [show ((4 + 8 * 0 : Nat) : Int) = 4 from rfl, show ((0 : Nat) : Int) = 0 from rfl]
      clear K0 K1 Kx hx4
      go_loopw [34, 2] (fun i n wr => ∃ k : Nat, k ≤ 4 ∧ i = .int .i64 k ∧ n = .int .i64 ((4 + 2 * k : Nat) : Int) ∧ Ext w wr ∧ Whole wr w.heap.size Try.zeroCells99 99 ∧ Whole wr (w.heap.size + 1) (tabC (4 + 2 * k)) 99 ∧ Whole wr g4 #[.int .i64 4, .int .i64 3, .int .i64 5] 98) (fun i _ _ => 4 - (intOf i).toNat)
      case atStart => exact ⟨0, by omega, rfl, rfl, kx, k0, k1, k4⟩
      case round =>
        obtain ⟨k, hk, rfl, rfl, kx, k0, k1, k4⟩ := hrel
        obtain ⟨wp, rfl⟩ : ∃ wp : World, wp = wr := ⟨_, rfl⟩
        rcases (by omega : k = 0 ∨ k = 1 ∨ k = 2 ∨ k = 3 ∨ k = 4) with rfl | rfl | rfl | rfl | rfl
        · have x0 := k4.cell 0 rfl
          have x1 := k4.cell 1 rfl
          have x2 := k4.cell 2 rfl
          have hf := k1.free
          have c0 : wp.cell? ⟨w.heap.size + 1, 12, none⟩ = some (.int .i64 0) := k1.cell 12 (by kernel_rfl)
          have c1 : wp.cell? ⟨w.heap.size + 1, 13, none⟩ = some (.int .i64 0) := k1.cell 13 (by kernel_rfl)
          have c2 : wp.cell? ⟨w.heap.size + 1, 14, none⟩ = some (.int .i64 0) := k1.cell 14 (by kernel_rfl)
          have c3 : wp.cell? ⟨w.heap.size + 1, 15, none⟩ = some (.int .i64 0) := k1.cell 15 (by kernel_rfl)
          have c4 : wp.cell? ⟨w.heap.size + 1, 16, none⟩ = some (.int .i64 0) := k1.cell 16 (by kernel_rfl)
          have c5 : wp.cell? ⟨w.heap.size + 1, 17, none⟩ = some (.int .i64 0) := k1.cell 17 (by kernel_rfl)
          have K0 := Lib.hid k0
          have K1 := Lib.hid k1
          have K4 := Lib.hid k4
          have Kx := Lib.hid kx
          clear k0 k1 k4 kx
          simp only [show ((4 + 2 * 0 : Nat) : Int) = 4 from rfl, show ((0 : Nat) : Int) = 0 from rfl]
          go_wp2
          go_region
          have k0 := (((((((K0.out.farCell (k := w.heap.size + 1) (by omega) 12 (.int .i64 (-4))).farCell (k := w.heap.size + 1) (by omega) 13 (.int .i64 (-3))).farCell (k := w.heap.size + 1) (by omega) 14 (.int .i64 (5))).farCell (k := w.heap.size + 1) (by omega) 15 (.int .i64 (-4))).farCell (k := w.heap.size + 1) (by omega) 16 (.int .i64 (3))).farCell (k := w.heap.size + 1) (by omega) 17 (.int .i64 (5))).ext (Ext.refl _).drew)
          have k4 := (((((((K4.out.farCell (k := w.heap.size + 1) (by omega) 12 (.int .i64 (-4))).farCell (k := w.heap.size + 1) (by omega) 13 (.int .i64 (-3))).farCell (k := w.heap.size + 1) (by omega) 14 (.int .i64 (5))).farCell (k := w.heap.size + 1) (by omega) 15 (.int .i64 (-4))).farCell (k := w.heap.size + 1) (by omega) 16 (.int .i64 (3))).farCell (k := w.heap.size + 1) (by omega) 17 (.int .i64 (5))).ext (Ext.refl _).drew)
          have k1 := (((((((K1.out.setCell 12 (.int .i64 (-4))).setCell 13 (.int .i64 (-3))).setCell 14 (.int .i64 (5))).setCell 15 (.int .i64 (-4))).setCell 16 (.int .i64 (3))).setCell 17 (.int .i64 (5))).ext (Ext.refl _).drew)
          rw [show (((((((tabC (4 + 2 * 0)).setIfInBounds 12 (.int .i64 (-4))).setIfInBounds 13 (.int .i64 (-3))).setIfInBounds 14 (.int .i64 (5))).setIfInBounds 15 (.int .i64 (-4))).setIfInBounds 16 (.int .i64 (3))).setIfInBounds 17 (.int .i64 (5))) = tabC (4 + 2 * 1) by kernel_rfl] at k1
          have kx := ((((((((((((Kx.out).setCell (p := ⟨w.heap.size + 1, 12, none⟩) (by simp) (.int .i64 (-4)))).setCell (p := ⟨w.heap.size + 1, 13, none⟩) (by simp) (.int .i64 (-3)))).setCell (p := ⟨w.heap.size + 1, 14, none⟩) (by simp) (.int .i64 (5)))).setCell (p := ⟨w.heap.size + 1, 15, none⟩) (by simp) (.int .i64 (-4)))).setCell (p := ⟨w.heap.size + 1, 16, none⟩) (by simp) (.int .i64 (3)))).setCell (p := ⟨w.heap.size + 1, 17, none⟩) (by simp) (.int .i64 (5))).drew
          generalize (((((((wp.setCell ⟨w.heap.size + 1, 12, none⟩ (.int .i64 (-4))).setCell ⟨w.heap.size + 1, 13, none⟩ (.int .i64 (-3))).setCell ⟨w.heap.size + 1, 14, none⟩ (.int .i64 (5))).setCell ⟨w.heap.size + 1, 15, none⟩ (.int .i64 (-4))).setCell ⟨w.heap.size + 1, 16, none⟩ (.int .i64 (3))).setCell ⟨w.heap.size + 1, 17, none⟩ (.int .i64 (5)))).drew = wq at *
          clear x0 x1 x2 c0 c1 c2 c3 c4 c5 hf K0 K1 K4 Kx
          go_wp2
          go_roundw
          case rel => exact ⟨1, by omega, rfl, rfl, kx, k0, k1, k4⟩
          case measure => simp [intOf]
        · have x0 := k4.cell 0 rfl
          have x1 := k4.cell 1 rfl
          have x2 := k4.cell 2 rfl
          have hf := k1.free
          have c0 : wp.cell? ⟨w.heap.size + 1, 18, none⟩ = some (.int .i64 0) := k1.cell 18 (by kernel_rfl)
          have c1 : wp.cell? ⟨w.heap.size + 1, 19, none⟩ = some (.int .i64 0) := k1.cell 19 (by kernel_rfl)
          have c2 : wp.cell? ⟨w.heap.size + 1, 20, none⟩ = some (.int .i64 0) := k1.cell 20 (by kernel_rfl)
          have c3 : wp.cell? ⟨w.heap.size + 1, 21, none⟩ = some (.int .i64 0) := k1.cell 21 (by kernel_rfl)
          have c4 : wp.cell? ⟨w.heap.size + 1, 22, none⟩ = some (.int .i64 0) := k1.cell 22 (by kernel_rfl)
          have c5 : wp.cell? ⟨w.heap.size + 1, 23, none⟩ = some (.int .i64 0) := k1.cell 23 (by kernel_rfl)
          have K0 := Lib.hid k0
          have K1 := Lib.hid k1
          have K4 := Lib.hid k4
          have Kx := Lib.hid kx
          clear k0 k1 k4 kx
          simp only [show ((4 + 2 * 1 : Nat) : Int) = 6 from rfl, show ((1 : Nat) : Int) = 1 from rfl]
          go_wp2
          go_region
          have k0 := (((((((K0.out.farCell (k := w.heap.size + 1) (by omega) 18 (.int .i64 (-3))).farCell (k := w.heap.size + 1) (by omega) 19 (.int .i64 (-4))).farCell (k := w.heap.size + 1) (by omega) 20 (.int .i64 (5))).farCell (k := w.heap.size + 1) (by omega) 21 (.int .i64 (-3))).farCell (k := w.heap.size + 1) (by omega) 22 (.int .i64 (4))).farCell (k := w.heap.size + 1) (by omega) 23 (.int .i64 (5))).ext (Ext.refl _).drew)
          have k4 := (((((((K4.out.farCell (k := w.heap.size + 1) (by omega) 18 (.int .i64 (-3))).farCell (k := w.heap.size + 1) (by omega) 19 (.int .i64 (-4))).farCell (k := w.heap.size + 1) (by omega) 20 (.int .i64 (5))).farCell (k := w.heap.size + 1) (by omega) 21 (.int .i64 (-3))).farCell (k := w.heap.size + 1) (by omega) 22 (.int .i64 (4))).farCell (k := w.heap.size + 1) (by omega) 23 (.int .i64 (5))).ext (Ext.refl _).drew)
          have k1 := (((((((K1.out.setCell 18 (.int .i64 (-3))).setCell 19 (.int .i64 (-4))).setCell 20 (.int .i64 (5))).setCell 21 (.int .i64 (-3))).setCell 22 (.int .i64 (4))).setCell 23 (.int .i64 (5))).ext (Ext.refl _).drew)
          rw [show (((((((tabC (4 + 2 * 1)).setIfInBounds 18 (.int .i64 (-3))).setIfInBounds 19 (.int .i64 (-4))).setIfInBounds 20 (.int .i64 (5))).setIfInBounds 21 (.int .i64 (-3))).setIfInBounds 22 (.int .i64 (4))).setIfInBounds 23 (.int .i64 (5))) = tabC (4 + 2 * 2) by kernel_rfl] at k1
          have kx := ((((((((((((Kx.out).setCell (p := ⟨w.heap.size + 1, 18, none⟩) (by simp) (.int .i64 (-3)))).setCell (p := ⟨w.heap.size + 1, 19, none⟩) (by simp) (.int .i64 (-4)))).setCell (p := ⟨w.heap.size + 1, 20, none⟩) (by simp) (.int .i64 (5)))).setCell (p := ⟨w.heap.size + 1, 21, none⟩) (by simp) (.int .i64 (-3)))).setCell (p := ⟨w.heap.size + 1, 22, none⟩) (by simp) (.int .i64 (4)))).setCell (p := ⟨w.heap.size + 1, 23, none⟩) (by simp) (.int .i64 (5))).drew
          generalize (((((((wp.setCell ⟨w.heap.size + 1, 18, none⟩ (.int .i64 (-3))).setCell ⟨w.heap.size + 1, 19, none⟩ (.int .i64 (-4))).setCell ⟨w.heap.size + 1, 20, none⟩ (.int .i64 (5))).setCell ⟨w.heap.size + 1, 21, none⟩ (.int .i64 (-3))).setCell ⟨w.heap.size + 1, 22, none⟩ (.int .i64 (4))).setCell ⟨w.heap.size + 1, 23, none⟩ (.int .i64 (5)))).drew = wq at *
          clear x0 x1 x2 c0 c1 c2 c3 c4 c5 hf K0 K1 K4 Kx
          go_wp2
          go_roundw
          case rel => exact ⟨2, by omega, rfl, rfl, kx, k0, k1, k4⟩
          case measure => simp [intOf]
        · have x0 := k4.cell 0 rfl
          have x1 := k4.cell 1 rfl
          have x2 := k4.cell 2 rfl
          have hf := k1.free
          have c0 : wp.cell? ⟨w.heap.size + 1, 24, none⟩ = some (.int .i64 0) := k1.cell 24 (by kernel_rfl)
          have c1 : wp.cell? ⟨w.heap.size + 1, 25, none⟩ = some (.int .i64 0) := k1.cell 25 (by kernel_rfl)
          have c2 : wp.cell? ⟨w.heap.size + 1, 26, none⟩ = some (.int .i64 0) := k1.cell 26 (by kernel_rfl)
          have c3 : wp.cell? ⟨w.heap.size + 1, 27, none⟩ = some (.int .i64 0) := k1.cell 27 (by kernel_rfl)
          have c4 : wp.cell? ⟨w.heap.size + 1, 28, none⟩ = some (.int .i64 0) := k1.cell 28 (by kernel_rfl)
          have c5 : wp.cell? ⟨w.heap.size + 1, 29, none⟩ = some (.int .i64 0) := k1.cell 29 (by kernel_rfl)
          have K0 := Lib.hid k0
          have K1 := Lib.hid k1
          have K4 := Lib.hid k4
          have Kx := Lib.hid kx
          clear k0 k1 k4 kx
          simp only [show ((4 + 2 * 2 : Nat) : Int) = 8 from rfl, show ((2 : Nat) : Int) = 2 from rfl]
          go_wp2
          go_region
          have k0 := (((((((K0.out.farCell (k := w.heap.size + 1) (by omega) 24 (.int .i64 (3))).farCell (k := w.heap.size + 1) (by omega) 25 (.int .i64 (-4))).farCell (k := w.heap.size + 1) (by omega) 26 (.int .i64 (5))).farCell (k := w.heap.size + 1) (by omega) 27 (.int .i64 (3))).farCell (k := w.heap.size + 1) (by omega) 28 (.int .i64 (4))).farCell (k := w.heap.size + 1) (by omega) 29 (.int .i64 (5))).ext (Ext.refl _).drew)
          have k4 := (((((((K4.out.farCell (k := w.heap.size + 1) (by omega) 24 (.int .i64 (3))).farCell (k := w.heap.size + 1) (by omega) 25 (.int .i64 (-4))).farCell (k := w.heap.size + 1) (by omega) 26 (.int .i64 (5))).farCell (k := w.heap.size + 1) (by omega) 27 (.int .i64 (3))).farCell (k := w.heap.size + 1) (by omega) 28 (.int .i64 (4))).farCell (k := w.heap.size + 1) (by omega) 29 (.int .i64 (5))).ext (Ext.refl _).drew)
          have k1 := (((((((K1.out.setCell 24 (.int .i64 (3))).setCell 25 (.int .i64 (-4))).setCell 26 (.int .i64 (5))).setCell 27 (.int .i64 (3))).setCell 28 (.int .i64 (4))).setCell 29 (.int .i64 (5))).ext (Ext.refl _).drew)
          rw [show (((((((tabC (4 + 2 * 2)).setIfInBounds 24 (.int .i64 (3))).setIfInBounds 25 (.int .i64 (-4))).setIfInBounds 26 (.int .i64 (5))).setIfInBounds 27 (.int .i64 (3))).setIfInBounds 28 (.int .i64 (4))).setIfInBounds 29 (.int .i64 (5))) = tabC (4 + 2 * 3) by kernel_rfl] at k1
          have kx := ((((((((((((Kx.out).setCell (p := ⟨w.heap.size + 1, 24, none⟩) (by simp) (.int .i64 (3)))).setCell (p := ⟨w.heap.size + 1, 25, none⟩) (by simp) (.int .i64 (-4)))).setCell (p := ⟨w.heap.size + 1, 26, none⟩) (by simp) (.int .i64 (5)))).setCell (p := ⟨w.heap.size + 1, 27, none⟩) (by simp) (.int .i64 (3)))).setCell (p := ⟨w.heap.size + 1, 28, none⟩) (by simp) (.int .i64 (4)))).setCell (p := ⟨w.heap.size + 1, 29, none⟩) (by simp) (.int .i64 (5))).drew
          generalize (((((((wp.setCell ⟨w.heap.size + 1, 24, none⟩ (.int .i64 (3))).setCell ⟨w.heap.size + 1, 25, none⟩ (.int .i64 (-4))).setCell ⟨w.heap.size + 1, 26, none⟩ (.int .i64 (5))).setCell ⟨w.heap.size + 1, 27, none⟩ (.int .i64 (3))).setCell ⟨w.heap.size + 1, 28, none⟩ (.int .i64 (4))).setCell ⟨w.heap.size + 1, 29, none⟩ (.int .i64 (5)))).drew = wq at *
          clear x0 x1 x2 c0 c1 c2 c3 c4 c5 hf K0 K1 K4 Kx
          go_wp2
          go_roundw
          case rel => exact ⟨3, by omega, rfl, rfl, kx, k0, k1, k4⟩
          case measure => simp [intOf]
        · have x0 := k4.cell 0 rfl
          have x1 := k4.cell 1 rfl
          have x2 := k4.cell 2 rfl
          have hf := k1.free
          have c0 : wp.cell? ⟨w.heap.size + 1, 30, none⟩ = some (.int .i64 0) := k1.cell 30 (by kernel_rfl)
          have c1 : wp.cell? ⟨w.heap.size + 1, 31, none⟩ = some (.int .i64 0) := k1.cell 31 (by kernel_rfl)
          have c2 : wp.cell? ⟨w.heap.size + 1, 32, none⟩ = some (.int .i64 0) := k1.cell 32 (by kernel_rfl)
          have c3 : wp.cell? ⟨w.heap.size + 1, 33, none⟩ = some (.int .i64 0) := k1.cell 33 (by kernel_rfl)
          have c4 : wp.cell? ⟨w.heap.size + 1, 34, none⟩ = some (.int .i64 0) := k1.cell 34 (by kernel_rfl)
          have c5 : wp.cell? ⟨w.heap.size + 1, 35, none⟩ = some (.int .i64 0) := k1.cell 35 (by kernel_rfl)
          have K0 := Lib.hid k0
          have K1 := Lib.hid k1
          have K4 := Lib.hid k4
          have Kx := Lib.hid kx
          clear k0 k1 k4 kx
          simp only [show ((4 + 2 * 3 : Nat) : Int) = 10 from rfl, show ((3 : Nat) : Int) = 3 from rfl]
          go_wp2
          go_region
          have k0 := (((((((K0.out.farCell (k := w.heap.size + 1) (by omega) 30 (.int .i64 (4))).farCell (k := w.heap.size + 1) (by omega) 31 (.int .i64 (-3))).farCell (k := w.heap.size + 1) (by omega) 32 (.int .i64 (5))).farCell (k := w.heap.size + 1) (by omega) 33 (.int .i64 (4))).farCell (k := w.heap.size + 1) (by omega) 34 (.int .i64 (3))).farCell (k := w.heap.size + 1) (by omega) 35 (.int .i64 (5))).ext (Ext.refl _).drew)
          have k4 := (((((((K4.out.farCell (k := w.heap.size + 1) (by omega) 30 (.int .i64 (4))).farCell (k := w.heap.size + 1) (by omega) 31 (.int .i64 (-3))).farCell (k := w.heap.size + 1) (by omega) 32 (.int .i64 (5))).farCell (k := w.heap.size + 1) (by omega) 33 (.int .i64 (4))).farCell (k := w.heap.size + 1) (by omega) 34 (.int .i64 (3))).farCell (k := w.heap.size + 1) (by omega) 35 (.int .i64 (5))).ext (Ext.refl _).drew)
          have k1 := (((((((K1.out.setCell 30 (.int .i64 (4))).setCell 31 (.int .i64 (-3))).setCell 32 (.int .i64 (5))).setCell 33 (.int .i64 (4))).setCell 34 (.int .i64 (3))).setCell 35 (.int .i64 (5))).ext (Ext.refl _).drew)
          rw [show (((((((tabC (4 + 2 * 3)).setIfInBounds 30 (.int .i64 (4))).setIfInBounds 31 (.int .i64 (-3))).setIfInBounds 32 (.int .i64 (5))).setIfInBounds 33 (.int .i64 (4))).setIfInBounds 34 (.int .i64 (3))).setIfInBounds 35 (.int .i64 (5))) = tabC (4 + 2 * 4) by kernel_rfl] at k1
          have kx := ((((((((((((Kx.out).setCell (p := ⟨w.heap.size + 1, 30, none⟩) (by simp) (.int .i64 (4)))).setCell (p := ⟨w.heap.size + 1, 31, none⟩) (by simp) (.int .i64 (-3)))).setCell (p := ⟨w.heap.size + 1, 32, none⟩) (by simp) (.int .i64 (5)))).setCell (p := ⟨w.heap.size + 1, 33, none⟩) (by simp) (.int .i64 (4)))).setCell (p := ⟨w.heap.size + 1, 34, none⟩) (by simp) (.int .i64 (3)))).setCell (p := ⟨w.heap.size + 1, 35, none⟩) (by simp) (.int .i64 (5))).drew
          generalize (((((((wp.setCell ⟨w.heap.size + 1, 30, none⟩ (.int .i64 (4))).setCell ⟨w.heap.size + 1, 31, none⟩ (.int .i64 (-3))).setCell ⟨w.heap.size + 1, 32, none⟩ (.int .i64 (5))).setCell ⟨w.heap.size + 1, 33, none⟩ (.int .i64 (4))).setCell ⟨w.heap.size + 1, 34, none⟩ (.int .i64 (3))).setCell ⟨w.heap.size + 1, 35, none⟩ (.int .i64 (5)))).drew = wq at *
          clear x0 x1 x2 c0 c1 c2 c3 c4 c5 hf K0 K1 K4 Kx
          go_wp2
          go_roundw
          case rel => exact ⟨4, by omega, rfl, rfl, kx, k0, k1, k4⟩
          case measure => simp [intOf]
        · have k1 : Whole wp (w.heap.size + 1) (tabC 12) 99 := k1
          have hrow : TRow wp (some ⟨w.heap.size + 1, 12, none⟩) ((turns.drop 4).take 8) := k1.row 12 _ (by kernel_rfl)
          have hsrt : Calls Try.prog 78 #[.slice (some ⟨w.heap.size + 1, 12, none⟩) 8 8, .func (.func 79) #[] #[]] wp fun e w' => e = .returned (.tuple #[]) ∧ Ext wp w' := sort_turns _ 8 ((turns.drop 4).take 8) wp hrow (by decide) (sorted_of (by decide))
          have sl : ∀ (g : Nat) (w : World), (Instr.sliceAt 99 (.pointer (some ⟨g, 0, none⟩)) (some (.int .i64 4)) (some (.int .i64 12)) (some (.int .i64 12))).run Try.prog w = .ok (.slice (some ⟨g, 12, none⟩) 8 8) w := fun _ _ => by kernel_rfl
          have Hs := Lib.hid hsrt
          clear hsrt hrow
          simp only [show ((4 + 2 * 4 : Nat) : Int) = 12 from rfl, show ((4 : Nat) : Int) = 4 from rfl]
          go_wp2_with (go_at_call 78; refine Hs.out.mono ?_; rintro e w5 ⟨rfl, hx5⟩)
          go_roundw
          case rel => exact ⟨1, by omega, rfl, rfl, kx.trans hx5, k0.ext hx5, k1.ext hx5⟩
          case measure => simp [intOf]
    · skip
      clear x0 x1 x2 x3
      have x1 : ∀ w : World, (Instr.index 129 (.agg #[.int .i64 (4), .int .i64 (3), .int .i64 (5), .int .i64 (12), .int .i64 (5), .int .i64 (13), .int .i64 (15), .int .i64 (8), .int .i64 (17), .int .i64 (24), .int .i64 (7), .int .i64 (25)]) (.int .i64 1)).run Try.prog w = .ok (.agg #[.int .i64 (12), .int .i64 (5), .int .i64 (13)]) w := fun _ => by kernel_rfl
      have y0 : ∀ w : World, (Instr.index 130 (.agg #[.int .i64 (-12), .int .i64 (-5), .int .i64 (5), .int .i64 (12)]) (.int .i64 0)).run Try.prog w = .ok (.int .i64 (-12)) w := fun _ => by kernel_rfl
      have y1 : ∀ w : World, (Instr.index 130 (.agg #[.int .i64 (-12), .int .i64 (-5), .int .i64 (5), .int .i64 (12)]) (.int .i64 1)).run Try.prog w = .ok (.int .i64 (-5)) w := fun _ => by kernel_rfl
      have y2 : ∀ w : World, (Instr.index 130 (.agg #[.int .i64 (-12), .int .i64 (-5), .int .i64 (5), .int .i64 (12)]) (.int .i64 2)).run Try.prog w = .ok (.int .i64 (5)) w := fun _ => by kernel_rfl
      have y3 : ∀ w : World, (Instr.index 130 (.agg #[.int .i64 (-12), .int .i64 (-5), .int .i64 (5), .int .i64 (12)]) (.int .i64 3)).run Try.prog w = .ok (.int .i64 (12)) w := fun _ => by kernel_rfl
      go_wp2
      have hx4 : Ext wo (wo.alloc (.cells #[.int .i64 12, .int .i64 5, .int .i64 13] 98)) := by simp
      have k4 : Whole (wo.alloc (.cells #[.int .i64 12, .int .i64 5, .int .i64 13] 98)) wo.heap.size #[.int .i64 12, .int .i64 5, .int .i64 13] 98 := Whole.new rfl
      have k0 := K0.out.ext hx4
      have k1 := K1.out.ext hx4
      have kx := Kx.out.trans hx4
      generalize (wo.alloc (.cells #[.int .i64 12, .int .i64 5, .int .i64 13] 98)) = W4 at *
      have k1 : Whole W4 (w.heap.size + 1) (tabC 12) 99 := k1
      have hg4 : w.heap.size + 1 < wo.heap.size := K1.out.blk.lt
      generalize wo.heap.size = g4 at *
      simp only [show ((4 + 8 * 1 : Nat) : Int) = 12 from rfl, show ((1 : Nat) : Int) = 1 from rfl]
      clear K0 K1 Kx hx4
      go_loopw [34, 2] (fun i n wr => ∃ k : Nat, k ≤ 4 ∧ i = .int .i64 k ∧ n = .int .i64 ((12 + 2 * k : Nat) : Int) ∧ Ext w wr ∧ Whole wr w.heap.size Try.zeroCells99 99 ∧ Whole wr (w.heap.size + 1) (tabC (12 + 2 * k)) 99 ∧ Whole wr g4 #[.int .i64 12, .int .i64 5, .int .i64 13] 98) (fun i _ _ => 4 - (intOf i).toNat)
      case atStart => exact ⟨0, by omega, rfl, rfl, kx, k0, k1, k4⟩
      case round =>
        obtain ⟨k, hk, rfl, rfl, kx, k0, k1, k4⟩ := hrel
        obtain ⟨wp, rfl⟩ : ∃ wp : World, wp = wr := ⟨_, rfl⟩
        rcases (by omega : k = 0 ∨ k = 1 ∨ k = 2 ∨ k = 3 ∨ k = 4) with rfl | rfl | rfl | rfl | rfl
        · have x0 := k4.cell 0 rfl
          have x1 := k4.cell 1 rfl
          have x2 := k4.cell 2 rfl
          have hf := k1.free
          have c0 : wp.cell? ⟨w.heap.size + 1, 36, none⟩ = some (.int .i64 0) := k1.cell 36 (by kernel_rfl)
          have c1 : wp.cell? ⟨w.heap.size + 1, 37, none⟩ = some (.int .i64 0) := k1.cell 37 (by kernel_rfl)
          have c2 : wp.cell? ⟨w.heap.size + 1, 38, none⟩ = some (.int .i64 0) := k1.cell 38 (by kernel_rfl)
          have c3 : wp.cell? ⟨w.heap.size + 1, 39, none⟩ = some (.int .i64 0) := k1.cell 39 (by kernel_rfl)
          have c4 : wp.cell? ⟨w.heap.size + 1, 40, none⟩ = some (.int .i64 0) := k1.cell 40 (by kernel_rfl)
          have c5 : wp.cell? ⟨w.heap.size + 1, 41, none⟩ = some (.int .i64 0) := k1.cell 41 (by kernel_rfl)
          have K0 := Lib.hid k0
          have K1 := Lib.hid k1
          have K4 := Lib.hid k4
          have Kx := Lib.hid kx
          clear k0 k1 k4 kx
          simp only [show ((12 + 2 * 0 : Nat) : Int) = 12 from rfl, show ((0 : Nat) : Int) = 0 from rfl]
          go_wp2
          go_region
          have k0 := (((((((K0.out.farCell (k := w.heap.size + 1) (by omega) 36 (.int .i64 (-12))).farCell (k := w.heap.size + 1) (by omega) 37 (.int .i64 (-5))).farCell (k := w.heap.size + 1) (by omega) 38 (.int .i64 (13))).farCell (k := w.heap.size + 1) (by omega) 39 (.int .i64 (-12))).farCell (k := w.heap.size + 1) (by omega) 40 (.int .i64 (5))).farCell (k := w.heap.size + 1) (by omega) 41 (.int .i64 (13))).ext (Ext.refl _).drew)
          have k4 := (((((((K4.out.farCell (k := w.heap.size + 1) (by omega) 36 (.int .i64 (-12))).farCell (k := w.heap.size + 1) (by omega) 37 (.int .i64 (-5))).farCell (k := w.heap.size + 1) (by omega) 38 (.int .i64 (13))).farCell (k := w.heap.size + 1) (by omega) 39 (.int .i64 (-12))).farCell (k := w.heap.size + 1) (by omega) 40 (.int .i64 (5))).farCell (k := w.heap.size + 1) (by omega) 41 (.int .i64 (13))).ext (Ext.refl _).drew)
          have k1 := (((((((K1.out.setCell 36 (.int .i64 (-12))).setCell 37 (.int .i64 (-5))).setCell 38 (.int .i64 (13))).setCell 39 (.int .i64 (-12))).setCell 40 (.int .i64 (5))).setCell 41 (.int .i64 (13))).ext (Ext.refl _).drew)
          rw [show (((((((tabC (12 + 2 * 0)).setIfInBounds 36 (.int .i64 (-12))).setIfInBounds 37 (.int .i64 (-5))).setIfInBounds 38 (.int .i64 (13))).setIfInBounds 39 (.int .i64 (-12))).setIfInBounds 40 (.int .i64 (5))).setIfInBounds 41 (.int .i64 (13))) = tabC (12 + 2 * 1) by kernel_rfl] at k1
          have kx := ((((((((((((Kx.out).setCell (p := ⟨w.heap.size + 1, 36, none⟩) (by simp) (.int .i64 (-12)))).setCell (p := ⟨w.heap.size + 1, 37, none⟩) (by simp) (.int .i64 (-5)))).setCell (p := ⟨w.heap.size + 1, 38, none⟩) (by simp) (.int .i64 (13)))).setCell (p := ⟨w.heap.size + 1, 39, none⟩) (by simp) (.int .i64 (-12)))).setCell (p := ⟨w.heap.size + 1, 40, none⟩) (by simp) (.int .i64 (5)))).setCell (p := ⟨w.heap.size + 1, 41, none⟩) (by simp) (.int .i64 (13))).drew
          generalize (((((((wp.setCell ⟨w.heap.size + 1, 36, none⟩ (.int .i64 (-12))).setCell ⟨w.heap.size + 1, 37, none⟩ (.int .i64 (-5))).setCell ⟨w.heap.size + 1, 38, none⟩ (.int .i64 (13))).setCell ⟨w.heap.size + 1, 39, none⟩ (.int .i64 (-12))).setCell ⟨w.heap.size + 1, 40, none⟩ (.int .i64 (5))).setCell ⟨w.heap.size + 1, 41, none⟩ (.int .i64 (13)))).drew = wq at *
          clear x0 x1 x2 c0 c1 c2 c3 c4 c5 hf K0 K1 K4 Kx
          go_wp2
          go_roundw
          case rel => exact ⟨1, by omega, rfl, rfl, kx, k0, k1, k4⟩
          case measure => simp [intOf]
        · have x0 := k4.cell 0 rfl
          have x1 := k4.cell 1 rfl
          have x2 := k4.cell 2 rfl
          have hf := k1.free
          have c0 : wp.cell? ⟨w.heap.size + 1, 42, none⟩ = some (.int .i64 0) := k1.cell 42 (by kernel_rfl)
          have c1 : wp.cell? ⟨w.heap.size + 1, 43, none⟩ = some (.int .i64 0) := k1.cell 43 (by kernel_rfl)
          have c2 : wp.cell? ⟨w.heap.size + 1, 44, none⟩ = some (.int .i64 0) := k1.cell 44 (by kernel_rfl)
          have c3 : wp.cell? ⟨w.heap.size + 1, 45, none⟩ = some (.int .i64 0) := k1.cell 45 (by kernel_rfl)
          have c4 : wp.cell? ⟨w.heap.size + 1, 46, none⟩ = some (.int .i64 0) := k1.cell 46 (by kernel_rfl)
          have c5 : wp.cell? ⟨w.heap.size + 1, 47, none⟩ = some (.int .i64 0) := k1.cell 47 (by kernel_rfl)
          have K0 := Lib.hid k0
          have K1 := Lib.hid k1
          have K4 := Lib.hid k4
          have Kx := Lib.hid kx
          clear k0 k1 k4 kx
          simp only [show ((12 + 2 * 1 : Nat) : Int) = 14 from rfl, show ((1 : Nat) : Int) = 1 from rfl]
          go_wp2
          go_region
          have k0 := (((((((K0.out.farCell (k := w.heap.size + 1) (by omega) 42 (.int .i64 (-5))).farCell (k := w.heap.size + 1) (by omega) 43 (.int .i64 (-12))).farCell (k := w.heap.size + 1) (by omega) 44 (.int .i64 (13))).farCell (k := w.heap.size + 1) (by omega) 45 (.int .i64 (-5))).farCell (k := w.heap.size + 1) (by omega) 46 (.int .i64 (12))).farCell (k := w.heap.size + 1) (by omega) 47 (.int .i64 (13))).ext (Ext.refl _).drew)
          have k4 := (((((((K4.out.farCell (k := w.heap.size + 1) (by omega) 42 (.int .i64 (-5))).farCell (k := w.heap.size + 1) (by omega) 43 (.int .i64 (-12))).farCell (k := w.heap.size + 1) (by omega) 44 (.int .i64 (13))).farCell (k := w.heap.size + 1) (by omega) 45 (.int .i64 (-5))).farCell (k := w.heap.size + 1) (by omega) 46 (.int .i64 (12))).farCell (k := w.heap.size + 1) (by omega) 47 (.int .i64 (13))).ext (Ext.refl _).drew)
          have k1 := (((((((K1.out.setCell 42 (.int .i64 (-5))).setCell 43 (.int .i64 (-12))).setCell 44 (.int .i64 (13))).setCell 45 (.int .i64 (-5))).setCell 46 (.int .i64 (12))).setCell 47 (.int .i64 (13))).ext (Ext.refl _).drew)
          rw [show (((((((tabC (12 + 2 * 1)).setIfInBounds 42 (.int .i64 (-5))).setIfInBounds 43 (.int .i64 (-12))).setIfInBounds 44 (.int .i64 (13))).setIfInBounds 45 (.int .i64 (-5))).setIfInBounds 46 (.int .i64 (12))).setIfInBounds 47 (.int .i64 (13))) = tabC (12 + 2 * 2) by kernel_rfl] at k1
          have kx := ((((((((((((Kx.out).setCell (p := ⟨w.heap.size + 1, 42, none⟩) (by simp) (.int .i64 (-5)))).setCell (p := ⟨w.heap.size + 1, 43, none⟩) (by simp) (.int .i64 (-12)))).setCell (p := ⟨w.heap.size + 1, 44, none⟩) (by simp) (.int .i64 (13)))).setCell (p := ⟨w.heap.size + 1, 45, none⟩) (by simp) (.int .i64 (-5)))).setCell (p := ⟨w.heap.size + 1, 46, none⟩) (by simp) (.int .i64 (12)))).setCell (p := ⟨w.heap.size + 1, 47, none⟩) (by simp) (.int .i64 (13))).drew
          generalize (((((((wp.setCell ⟨w.heap.size + 1, 42, none⟩ (.int .i64 (-5))).setCell ⟨w.heap.size + 1, 43, none⟩ (.int .i64 (-12))).setCell ⟨w.heap.size + 1, 44, none⟩ (.int .i64 (13))).setCell ⟨w.heap.size + 1, 45, none⟩ (.int .i64 (-5))).setCell ⟨w.heap.size + 1, 46, none⟩ (.int .i64 (12))).setCell ⟨w.heap.size + 1, 47, none⟩ (.int .i64 (13)))).drew = wq at *
          clear x0 x1 x2 c0 c1 c2 c3 c4 c5 hf K0 K1 K4 Kx
          go_wp2
          go_roundw
          case rel => exact ⟨2, by omega, rfl, rfl, kx, k0, k1, k4⟩
          case measure => simp [intOf]
        · have x0 := k4.cell 0 rfl
          have x1 := k4.cell 1 rfl
          have x2 := k4.cell 2 rfl
          have hf := k1.free
          have c0 : wp.cell? ⟨w.heap.size + 1, 48, none⟩ = some (.int .i64 0) := k1.cell 48 (by kernel_rfl)
          have c1 : wp.cell? ⟨w.heap.size + 1, 49, none⟩ = some (.int .i64 0) := k1.cell 49 (by kernel_rfl)
          have c2 : wp.cell? ⟨w.heap.size + 1, 50, none⟩ = some (.int .i64 0) := k1.cell 50 (by kernel_rfl)
          have c3 : wp.cell? ⟨w.heap.size + 1, 51, none⟩ = some (.int .i64 0) := k1.cell 51 (by kernel_rfl)
          have c4 : wp.cell? ⟨w.heap.size + 1, 52, none⟩ = some (.int .i64 0) := k1.cell 52 (by kernel_rfl)
          have c5 : wp.cell? ⟨w.heap.size + 1, 53, none⟩ = some (.int .i64 0) := k1.cell 53 (by kernel_rfl)
          have K0 := Lib.hid k0
          have K1 := Lib.hid k1
          have K4 := Lib.hid k4
          have Kx := Lib.hid kx
          clear k0 k1 k4 kx
          simp only [show ((12 + 2 * 2 : Nat) : Int) = 16 from rfl, show ((2 : Nat) : Int) = 2 from rfl]
          go_wp2
          go_region
          have k0 := (((((((K0.out.farCell (k := w.heap.size + 1) (by omega) 48 (.int .i64 (5))).farCell (k := w.heap.size + 1) (by omega) 49 (.int .i64 (-12))).farCell (k := w.heap.size + 1) (by omega) 50 (.int .i64 (13))).farCell (k := w.heap.size + 1) (by omega) 51 (.int .i64 (5))).farCell (k := w.heap.size + 1) (by omega) 52 (.int .i64 (12))).farCell (k := w.heap.size + 1) (by omega) 53 (.int .i64 (13))).ext (Ext.refl _).drew)
          have k4 := (((((((K4.out.farCell (k := w.heap.size + 1) (by omega) 48 (.int .i64 (5))).farCell (k := w.heap.size + 1) (by omega) 49 (.int .i64 (-12))).farCell (k := w.heap.size + 1) (by omega) 50 (.int .i64 (13))).farCell (k := w.heap.size + 1) (by omega) 51 (.int .i64 (5))).farCell (k := w.heap.size + 1) (by omega) 52 (.int .i64 (12))).farCell (k := w.heap.size + 1) (by omega) 53 (.int .i64 (13))).ext (Ext.refl _).drew)
          have k1 := (((((((K1.out.setCell 48 (.int .i64 (5))).setCell 49 (.int .i64 (-12))).setCell 50 (.int .i64 (13))).setCell 51 (.int .i64 (5))).setCell 52 (.int .i64 (12))).setCell 53 (.int .i64 (13))).ext (Ext.refl _).drew)
          rw [show (((((((tabC (12 + 2 * 2)).setIfInBounds 48 (.int .i64 (5))).setIfInBounds 49 (.int .i64 (-12))).setIfInBounds 50 (.int .i64 (13))).setIfInBounds 51 (.int .i64 (5))).setIfInBounds 52 (.int .i64 (12))).setIfInBounds 53 (.int .i64 (13))) = tabC (12 + 2 * 3) by kernel_rfl] at k1
          have kx := ((((((((((((Kx.out).setCell (p := ⟨w.heap.size + 1, 48, none⟩) (by simp) (.int .i64 (5)))).setCell (p := ⟨w.heap.size + 1, 49, none⟩) (by simp) (.int .i64 (-12)))).setCell (p := ⟨w.heap.size + 1, 50, none⟩) (by simp) (.int .i64 (13)))).setCell (p := ⟨w.heap.size + 1, 51, none⟩) (by simp) (.int .i64 (5)))).setCell (p := ⟨w.heap.size + 1, 52, none⟩) (by simp) (.int .i64 (12)))).setCell (p := ⟨w.heap.size + 1, 53, none⟩) (by simp) (.int .i64 (13))).drew
          generalize (((((((wp.setCell ⟨w.heap.size + 1, 48, none⟩ (.int .i64 (5))).setCell ⟨w.heap.size + 1, 49, none⟩ (.int .i64 (-12))).setCell ⟨w.heap.size + 1, 50, none⟩ (.int .i64 (13))).setCell ⟨w.heap.size + 1, 51, none⟩ (.int .i64 (5))).setCell ⟨w.heap.size + 1, 52, none⟩ (.int .i64 (12))).setCell ⟨w.heap.size + 1, 53, none⟩ (.int .i64 (13)))).drew = wq at *
          clear x0 x1 x2 c0 c1 c2 c3 c4 c5 hf K0 K1 K4 Kx
          go_wp2
          go_roundw
          case rel => exact ⟨3, by omega, rfl, rfl, kx, k0, k1, k4⟩
          case measure => simp [intOf]
        · have x0 := k4.cell 0 rfl
          have x1 := k4.cell 1 rfl
          have x2 := k4.cell 2 rfl
          have hf := k1.free
          have c0 : wp.cell? ⟨w.heap.size + 1, 54, none⟩ = some (.int .i64 0) := k1.cell 54 (by kernel_rfl)
          have c1 : wp.cell? ⟨w.heap.size + 1, 55, none⟩ = some (.int .i64 0) := k1.cell 55 (by kernel_rfl)
          have c2 : wp.cell? ⟨w.heap.size + 1, 56, none⟩ = some (.int .i64 0) := k1.cell 56 (by kernel_rfl)
          have c3 : wp.cell? ⟨w.heap.size + 1, 57, none⟩ = some (.int .i64 0) := k1.cell 57 (by kernel_rfl)
          have c4 : wp.cell? ⟨w.heap.size + 1, 58, none⟩ = some (.int .i64 0) := k1.cell 58 (by kernel_rfl)
          have c5 : wp.cell? ⟨w.heap.size + 1, 59, none⟩ = some (.int .i64 0) := k1.cell 59 (by kernel_rfl)
          have K0 := Lib.hid k0
          have K1 := Lib.hid k1
          have K4 := Lib.hid k4
          have Kx := Lib.hid kx
          clear k0 k1 k4 kx
          simp only [show ((12 + 2 * 3 : Nat) : Int) = 18 from rfl, show ((3 : Nat) : Int) = 3 from rfl]
          go_wp2
          go_region
          have k0 := (((((((K0.out.farCell (k := w.heap.size + 1) (by omega) 54 (.int .i64 (12))).farCell (k := w.heap.size + 1) (by omega) 55 (.int .i64 (-5))).farCell (k := w.heap.size + 1) (by omega) 56 (.int .i64 (13))).farCell (k := w.heap.size + 1) (by omega) 57 (.int .i64 (12))).farCell (k := w.heap.size + 1) (by omega) 58 (.int .i64 (5))).farCell (k := w.heap.size + 1) (by omega) 59 (.int .i64 (13))).ext (Ext.refl _).drew)
          have k4 := (((((((K4.out.farCell (k := w.heap.size + 1) (by omega) 54 (.int .i64 (12))).farCell (k := w.heap.size + 1) (by omega) 55 (.int .i64 (-5))).farCell (k := w.heap.size + 1) (by omega) 56 (.int .i64 (13))).farCell (k := w.heap.size + 1) (by omega) 57 (.int .i64 (12))).farCell (k := w.heap.size + 1) (by omega) 58 (.int .i64 (5))).farCell (k := w.heap.size + 1) (by omega) 59 (.int .i64 (13))).ext (Ext.refl _).drew)
          have k1 := (((((((K1.out.setCell 54 (.int .i64 (12))).setCell 55 (.int .i64 (-5))).setCell 56 (.int .i64 (13))).setCell 57 (.int .i64 (12))).setCell 58 (.int .i64 (5))).setCell 59 (.int .i64 (13))).ext (Ext.refl _).drew)
          rw [show (((((((tabC (12 + 2 * 3)).setIfInBounds 54 (.int .i64 (12))).setIfInBounds 55 (.int .i64 (-5))).setIfInBounds 56 (.int .i64 (13))).setIfInBounds 57 (.int .i64 (12))).setIfInBounds 58 (.int .i64 (5))).setIfInBounds 59 (.int .i64 (13))) = tabC (12 + 2 * 4) by kernel_rfl] at k1
          have kx := ((((((((((((Kx.out).setCell (p := ⟨w.heap.size + 1, 54, none⟩) (by simp) (.int .i64 (12)))).setCell (p := ⟨w.heap.size + 1, 55, none⟩) (by simp) (.int .i64 (-5)))).setCell (p := ⟨w.heap.size + 1, 56, none⟩) (by simp) (.int .i64 (13)))).setCell (p := ⟨w.heap.size + 1, 57, none⟩) (by simp) (.int .i64 (12)))).setCell (p := ⟨w.heap.size + 1, 58, none⟩) (by simp) (.int .i64 (5)))).setCell (p := ⟨w.heap.size + 1, 59, none⟩) (by simp) (.int .i64 (13))).drew
          generalize (((((((wp.setCell ⟨w.heap.size + 1, 54, none⟩ (.int .i64 (12))).setCell ⟨w.heap.size + 1, 55, none⟩ (.int .i64 (-5))).setCell ⟨w.heap.size + 1, 56, none⟩ (.int .i64 (13))).setCell ⟨w.heap.size + 1, 57, none⟩ (.int .i64 (12))).setCell ⟨w.heap.size + 1, 58, none⟩ (.int .i64 (5))).setCell ⟨w.heap.size + 1, 59, none⟩ (.int .i64 (13)))).drew = wq at *
          clear x0 x1 x2 c0 c1 c2 c3 c4 c5 hf K0 K1 K4 Kx
          go_wp2
          go_roundw
          case rel => exact ⟨4, by omega, rfl, rfl, kx, k0, k1, k4⟩
          case measure => simp [intOf]
        · have k1 : Whole wp (w.heap.size + 1) (tabC 20) 99 := k1
          have hrow : TRow wp (some ⟨w.heap.size + 1, 36, none⟩) ((turns.drop 12).take 8) := k1.row 36 _ (by kernel_rfl)
          have hsrt : Calls Try.prog 78 #[.slice (some ⟨w.heap.size + 1, 36, none⟩) 8 8, .func (.func 79) #[] #[]] wp fun e w' => e = .returned (.tuple #[]) ∧ Ext wp w' := sort_turns _ 8 ((turns.drop 12).take 8) wp hrow (by decide) (sorted_of (by decide))
          have sl : ∀ (g : Nat) (w : World), (Instr.sliceAt 99 (.pointer (some ⟨g, 0, none⟩)) (some (.int .i64 12)) (some (.int .i64 20)) (some (.int .i64 20))).run Try.prog w = .ok (.slice (some ⟨g, 36, none⟩) 8 8) w := fun _ _ => by kernel_rfl
          have Hs := Lib.hid hsrt
          clear hsrt hrow
          simp only [show ((12 + 2 * 4 : Nat) : Int) = 20 from rfl, show ((4 : Nat) : Int) = 4 from rfl]
          go_wp2_with (go_at_call 78; refine Hs.out.mono ?_; rintro e w5 ⟨rfl, hx5⟩)
          go_roundw
          case rel => exact ⟨2, by omega, rfl, rfl, kx.trans hx5, k0.ext hx5, k1.ext hx5⟩
          case measure => simp [intOf]
    · skip
      clear x0 x1 x2 x3
      have x2 : ∀ w : World, (Instr.index 129 (.agg #[.int .i64 (4), .int .i64 (3), .int .i64 (5), .int .i64 (12), .int .i64 (5), .int .i64 (13), .int .i64 (15), .int .i64 (8), .int .i64 (17), .int .i64 (24), .int .i64 (7), .int .i64 (25)]) (.int .i64 2)).run Try.prog w = .ok (.agg #[.int .i64 (15), .int .i64 (8), .int .i64 (17)]) w := fun _ => by kernel_rfl
      have y0 : ∀ w : World, (Instr.index 130 (.agg #[.int .i64 (-15), .int .i64 (-8), .int .i64 (8), .int .i64 (15)]) (.int .i64 0)).run Try.prog w = .ok (.int .i64 (-15)) w := fun _ => by kernel_rfl
      have y1 : ∀ w : World, (Instr.index 130 (.agg #[.int .i64 (-15), .int .i64 (-8), .int .i64 (8), .int .i64 (15)]) (.int .i64 1)).run Try.prog w = .ok (.int .i64 (-8)) w := fun _ => by kernel_rfl
      have y2 : ∀ w : World, (Instr.index 130 (.agg #[.int .i64 (-15), .int .i64 (-8), .int .i64 (8), .int .i64 (15)]) (.int .i64 2)).run Try.prog w = .ok (.int .i64 (8)) w := fun _ => by kernel_rfl
      have y3 : ∀ w : World, (Instr.index 130 (.agg #[.int .i64 (-15), .int .i64 (-8), .int .i64 (8), .int .i64 (15)]) (.int .i64 3)).run Try.prog w = .ok (.int .i64 (15)) w := fun _ => by kernel_rfl
      go_wp2
      have hx4 : Ext wo (wo.alloc (.cells #[.int .i64 15, .int .i64 8, .int .i64 17] 98)) := by simp
      have k4 : Whole (wo.alloc (.cells #[.int .i64 15, .int .i64 8, .int .i64 17] 98)) wo.heap.size #[.int .i64 15, .int .i64 8, .int .i64 17] 98 := Whole.new rfl
      have k0 := K0.out.ext hx4
      have k1 := K1.out.ext hx4
      have kx := Kx.out.trans hx4
      generalize (wo.alloc (.cells #[.int .i64 15, .int .i64 8, .int .i64 17] 98)) = W4 at *
      have k1 : Whole W4 (w.heap.size + 1) (tabC 20) 99 := k1
      have hg4 : w.heap.size + 1 < wo.heap.size := K1.out.blk.lt
      generalize wo.heap.size = g4 at *
      simp only [show ((4 + 8 * 2 : Nat) : Int) = 20 from rfl, show ((2 : Nat) : Int) = 2 from rfl]
      clear K0 K1 Kx hx4
      go_loopw [34, 2] (fun i n wr => ∃ k : Nat, k ≤ 4 ∧ i = .int .i64 k ∧ n = .int .i64 ((20 + 2 * k : Nat) : Int) ∧ Ext w wr ∧ Whole wr w.heap.size Try.zeroCells99 99 ∧ Whole wr (w.heap.size + 1) (tabC (20 + 2 * k)) 99 ∧ Whole wr g4 #[.int .i64 15, .int .i64 8, .int .i64 17] 98) (fun i _ _ => 4 - (intOf i).toNat)
      case atStart => exact ⟨0, by omega, rfl, rfl, kx, k0, k1, k4⟩
      case round =>
        obtain ⟨k, hk, rfl, rfl, kx, k0, k1, k4⟩ := hrel
        obtain ⟨wp, rfl⟩ : ∃ wp : World, wp = wr := ⟨_, rfl⟩
        rcases (by omega : k = 0 ∨ k = 1 ∨ k = 2 ∨ k = 3 ∨ k = 4) with rfl | rfl | rfl | rfl | rfl
        · have x0 := k4.cell 0 rfl
          have x1 := k4.cell 1 rfl
          have x2 := k4.cell 2 rfl
          have hf := k1.free
          have c0 : wp.cell? ⟨w.heap.size + 1, 60, none⟩ = some (.int .i64 0) := k1.cell 60 (by kernel_rfl)
          have c1 : wp.cell? ⟨w.heap.size + 1, 61, none⟩ = some (.int .i64 0) := k1.cell 61 (by kernel_rfl)
          have c2 : wp.cell? ⟨w.heap.size + 1, 62, none⟩ = some (.int .i64 0) := k1.cell 62 (by kernel_rfl)
          have c3 : wp.cell? ⟨w.heap.size + 1, 63, none⟩ = some (.int .i64 0) := k1.cell 63 (by kernel_rfl)
          have c4 : wp.cell? ⟨w.heap.size + 1, 64, none⟩ = some (.int .i64 0) := k1.cell 64 (by kernel_rfl)
          have c5 : wp.cell? ⟨w.heap.size + 1, 65, none⟩ = some (.int .i64 0) := k1.cell 65 (by kernel_rfl)
          have K0 := Lib.hid k0
          have K1 := Lib.hid k1
          have K4 := Lib.hid k4
          have Kx := Lib.hid kx
          clear k0 k1 k4 kx
          simp only [show ((20 + 2 * 0 : Nat) : Int) = 20 from rfl, show ((0 : Nat) : Int) = 0 from rfl]
          go_wp2
          go_region
          have k0 := (((((((K0.out.farCell (k := w.heap.size + 1) (by omega) 60 (.int .i64 (-15))).farCell (k := w.heap.size + 1) (by omega) 61 (.int .i64 (-8))).farCell (k := w.heap.size + 1) (by omega) 62 (.int .i64 (17))).farCell (k := w.heap.size + 1) (by omega) 63 (.int .i64 (-15))).farCell (k := w.heap.size + 1) (by omega) 64 (.int .i64 (8))).farCell (k := w.heap.size + 1) (by omega) 65 (.int .i64 (17))).ext (Ext.refl _).drew)
          have k4 := (((((((K4.out.farCell (k := w.heap.size + 1) (by omega) 60 (.int .i64 (-15))).farCell (k := w.heap.size + 1) (by omega) 61 (.int .i64 (-8))).farCell (k := w.heap.size + 1) (by omega) 62 (.int .i64 (17))).farCell (k := w.heap.size + 1) (by omega) 63 (.int .i64 (-15))).farCell (k := w.heap.size + 1) (by omega) 64 (.int .i64 (8))).farCell (k := w.heap.size + 1) (by omega) 65 (.int .i64 (17))).ext (Ext.refl _).drew)
          have k1 := (((((((K1.out.setCell 60 (.int .i64 (-15))).setCell 61 (.int .i64 (-8))).setCell 62 (.int .i64 (17))).setCell 63 (.int .i64 (-15))).setCell 64 (.int .i64 (8))).setCell 65 (.int .i64 (17))).ext (Ext.refl _).drew)
          rw [show (((((((tabC (20 + 2 * 0)).setIfInBounds 60 (.int .i64 (-15))).setIfInBounds 61 (.int .i64 (-8))).setIfInBounds 62 (.int .i64 (17))).setIfInBounds 63 (.int .i64 (-15))).setIfInBounds 64 (.int .i64 (8))).setIfInBounds 65 (.int .i64 (17))) = tabC (20 + 2 * 1) by kernel_rfl] at k1
          have kx := ((((((((((((Kx.out).setCell (p := ⟨w.heap.size + 1, 60, none⟩) (by simp) (.int .i64 (-15)))).setCell (p := ⟨w.heap.size + 1, 61, none⟩) (by simp) (.int .i64 (-8)))).setCell (p := ⟨w.heap.size + 1, 62, none⟩) (by simp) (.int .i64 (17)))).setCell (p := ⟨w.heap.size + 1, 63, none⟩) (by simp) (.int .i64 (-15)))).setCell (p := ⟨w.heap.size + 1, 64, none⟩) (by simp) (.int .i64 (8)))).setCell (p := ⟨w.heap.size + 1, 65, none⟩) (by simp) (.int .i64 (17))).drew
          generalize (((((((wp.setCell ⟨w.heap.size + 1, 60, none⟩ (.int .i64 (-15))).setCell ⟨w.heap.size + 1, 61, none⟩ (.int .i64 (-8))).setCell ⟨w.heap.size + 1, 62, none⟩ (.int .i64 (17))).setCell ⟨w.heap.size + 1, 63, none⟩ (.int .i64 (-15))).setCell ⟨w.heap.size + 1, 64, none⟩ (.int .i64 (8))).setCell ⟨w.heap.size + 1, 65, none⟩ (.int .i64 (17)))).drew = wq at *
          clear x0 x1 x2 c0 c1 c2 c3 c4 c5 hf K0 K1 K4 Kx
          go_wp2
          go_roundw
          case rel => exact ⟨1, by omega, rfl, rfl, kx, k0, k1, k4⟩
          case measure => simp [intOf]
        · have x0 := k4.cell 0 rfl
          have x1 := k4.cell 1 rfl
          have x2 := k4.cell 2 rfl
          have hf := k1.free
          have c0 : wp.cell? ⟨w.heap.size + 1, 66, none⟩ = some (.int .i64 0) := k1.cell 66 (by kernel_rfl)
          have c1 : wp.cell? ⟨w.heap.size + 1, 67, none⟩ = some (.int .i64 0) := k1.cell 67 (by kernel_rfl)
          have c2 : wp.cell? ⟨w.heap.size + 1, 68, none⟩ = some (.int .i64 0) := k1.cell 68 (by kernel_rfl)
          have c3 : wp.cell? ⟨w.heap.size + 1, 69, none⟩ = some (.int .i64 0) := k1.cell 69 (by kernel_rfl)
          have c4 : wp.cell? ⟨w.heap.size + 1, 70, none⟩ = some (.int .i64 0) := k1.cell 70 (by kernel_rfl)
          have c5 : wp.cell? ⟨w.heap.size + 1, 71, none⟩ = some (.int .i64 0) := k1.cell 71 (by kernel_rfl)
          have K0 := Lib.hid k0
          have K1 := Lib.hid k1
          have K4 := Lib.hid k4
          have Kx := Lib.hid kx
          clear k0 k1 k4 kx
          simp only [show ((20 + 2 * 1 : Nat) : Int) = 22 from rfl, show ((1 : Nat) : Int) = 1 from rfl]
          go_wp2
          go_region
          have k0 := (((((((K0.out.farCell (k := w.heap.size + 1) (by omega) 66 (.int .i64 (-8))).farCell (k := w.heap.size + 1) (by omega) 67 (.int .i64 (-15))).farCell (k := w.heap.size + 1) (by omega) 68 (.int .i64 (17))).farCell (k := w.heap.size + 1) (by omega) 69 (.int .i64 (-8))).farCell (k := w.heap.size + 1) (by omega) 70 (.int .i64 (15))).farCell (k := w.heap.size + 1) (by omega) 71 (.int .i64 (17))).ext (Ext.refl _).drew)
          have k4 := (((((((K4.out.farCell (k := w.heap.size + 1) (by omega) 66 (.int .i64 (-8))).farCell (k := w.heap.size + 1) (by omega) 67 (.int .i64 (-15))).farCell (k := w.heap.size + 1) (by omega) 68 (.int .i64 (17))).farCell (k := w.heap.size + 1) (by omega) 69 (.int .i64 (-8))).farCell (k := w.heap.size + 1) (by omega) 70 (.int .i64 (15))).farCell (k := w.heap.size + 1) (by omega) 71 (.int .i64 (17))).ext (Ext.refl _).drew)
          have k1 := (((((((K1.out.setCell 66 (.int .i64 (-8))).setCell 67 (.int .i64 (-15))).setCell 68 (.int .i64 (17))).setCell 69 (.int .i64 (-8))).setCell 70 (.int .i64 (15))).setCell 71 (.int .i64 (17))).ext (Ext.refl _).drew)
          rw [show (((((((tabC (20 + 2 * 1)).setIfInBounds 66 (.int .i64 (-8))).setIfInBounds 67 (.int .i64 (-15))).setIfInBounds 68 (.int .i64 (17))).setIfInBounds 69 (.int .i64 (-8))).setIfInBounds 70 (.int .i64 (15))).setIfInBounds 71 (.int .i64 (17))) = tabC (20 + 2 * 2) by kernel_rfl] at k1
          have kx := ((((((((((((Kx.out).setCell (p := ⟨w.heap.size + 1, 66, none⟩) (by simp) (.int .i64 (-8)))).setCell (p := ⟨w.heap.size + 1, 67, none⟩) (by simp) (.int .i64 (-15)))).setCell (p := ⟨w.heap.size + 1, 68, none⟩) (by simp) (.int .i64 (17)))).setCell (p := ⟨w.heap.size + 1, 69, none⟩) (by simp) (.int .i64 (-8)))).setCell (p := ⟨w.heap.size + 1, 70, none⟩) (by simp) (.int .i64 (15)))).setCell (p := ⟨w.heap.size + 1, 71, none⟩) (by simp) (.int .i64 (17))).drew
          generalize (((((((wp.setCell ⟨w.heap.size + 1, 66, none⟩ (.int .i64 (-8))).setCell ⟨w.heap.size + 1, 67, none⟩ (.int .i64 (-15))).setCell ⟨w.heap.size + 1, 68, none⟩ (.int .i64 (17))).setCell ⟨w.heap.size + 1, 69, none⟩ (.int .i64 (-8))).setCell ⟨w.heap.size + 1, 70, none⟩ (.int .i64 (15))).setCell ⟨w.heap.size + 1, 71, none⟩ (.int .i64 (17)))).drew = wq at *
          clear x0 x1 x2 c0 c1 c2 c3 c4 c5 hf K0 K1 K4 Kx
          go_wp2
          go_roundw
          case rel => exact ⟨2, by omega, rfl, rfl, kx, k0, k1, k4⟩
          case measure => simp [intOf]
        · have x0 := k4.cell 0 rfl
          have x1 := k4.cell 1 rfl
          have x2 := k4.cell 2 rfl
          have hf := k1.free
          have c0 : wp.cell? ⟨w.heap.size + 1, 72, none⟩ = some (.int .i64 0) := k1.cell 72 (by kernel_rfl)
          have c1 : wp.cell? ⟨w.heap.size + 1, 73, none⟩ = some (.int .i64 0) := k1.cell 73 (by kernel_rfl)
          have c2 : wp.cell? ⟨w.heap.size + 1, 74, none⟩ = some (.int .i64 0) := k1.cell 74 (by kernel_rfl)
          have c3 : wp.cell? ⟨w.heap.size + 1, 75, none⟩ = some (.int .i64 0) := k1.cell 75 (by kernel_rfl)
          have c4 : wp.cell? ⟨w.heap.size + 1, 76, none⟩ = some (.int .i64 0) := k1.cell 76 (by kernel_rfl)
          have c5 : wp.cell? ⟨w.heap.size + 1, 77, none⟩ = some (.int .i64 0) := k1.cell 77 (by kernel_rfl)
          have K0 := Lib.hid k0
          have K1 := Lib.hid k1
          have K4 := Lib.hid k4
          have Kx := Lib.hid kx
          clear k0 k1 k4 kx
          simp only [show ((20 + 2 * 2 : Nat) : Int) = 24 from rfl, show ((2 : Nat) : Int) = 2 from rfl]
          go_wp2
          go_region
          have k0 := (((((((K0.out.farCell (k := w.heap.size + 1) (by omega) 72 (.int .i64 (8))).farCell (k := w.heap.size + 1) (by omega) 73 (.int .i64 (-15))).farCell (k := w.heap.size + 1) (by omega) 74 (.int .i64 (17))).farCell (k := w.heap.size + 1) (by omega) 75 (.int .i64 (8))).farCell (k := w.heap.size + 1) (by omega) 76 (.int .i64 (15))).farCell (k := w.heap.size + 1) (by omega) 77 (.int .i64 (17))).ext (Ext.refl _).drew)
          have k4 := (((((((K4.out.farCell (k := w.heap.size + 1) (by omega) 72 (.int .i64 (8))).farCell (k := w.heap.size + 1) (by omega) 73 (.int .i64 (-15))).farCell (k := w.heap.size + 1) (by omega) 74 (.int .i64 (17))).farCell (k := w.heap.size + 1) (by omega) 75 (.int .i64 (8))).farCell (k := w.heap.size + 1) (by omega) 76 (.int .i64 (15))).farCell (k := w.heap.size + 1) (by omega) 77 (.int .i64 (17))).ext (Ext.refl _).drew)
          have k1 := (((((((K1.out.setCell 72 (.int .i64 (8))).setCell 73 (.int .i64 (-15))).setCell 74 (.int .i64 (17))).setCell 75 (.int .i64 (8))).setCell 76 (.int .i64 (15))).setCell 77 (.int .i64 (17))).ext (Ext.refl _).drew)
          rw [show (((((((tabC (20 + 2 * 2)).setIfInBounds 72 (.int .i64 (8))).setIfInBounds 73 (.int .i64 (-15))).setIfInBounds 74 (.int .i64 (17))).setIfInBounds 75 (.int .i64 (8))).setIfInBounds 76 (.int .i64 (15))).setIfInBounds 77 (.int .i64 (17))) = tabC (20 + 2 * 3) by kernel_rfl] at k1
          have kx := ((((((((((((Kx.out).setCell (p := ⟨w.heap.size + 1, 72, none⟩) (by simp) (.int .i64 (8)))).setCell (p := ⟨w.heap.size + 1, 73, none⟩) (by simp) (.int .i64 (-15)))).setCell (p := ⟨w.heap.size + 1, 74, none⟩) (by simp) (.int .i64 (17)))).setCell (p := ⟨w.heap.size + 1, 75, none⟩) (by simp) (.int .i64 (8)))).setCell (p := ⟨w.heap.size + 1, 76, none⟩) (by simp) (.int .i64 (15)))).setCell (p := ⟨w.heap.size + 1, 77, none⟩) (by simp) (.int .i64 (17))).drew
          generalize (((((((wp.setCell ⟨w.heap.size + 1, 72, none⟩ (.int .i64 (8))).setCell ⟨w.heap.size + 1, 73, none⟩ (.int .i64 (-15))).setCell ⟨w.heap.size + 1, 74, none⟩ (.int .i64 (17))).setCell ⟨w.heap.size + 1, 75, none⟩ (.int .i64 (8))).setCell ⟨w.heap.size + 1, 76, none⟩ (.int .i64 (15))).setCell ⟨w.heap.size + 1, 77, none⟩ (.int .i64 (17)))).drew = wq at *
          clear x0 x1 x2 c0 c1 c2 c3 c4 c5 hf K0 K1 K4 Kx
          go_wp2
          go_roundw
          case rel => exact ⟨3, by omega, rfl, rfl, kx, k0, k1, k4⟩
          case measure => simp [intOf]
        · have x0 := k4.cell 0 rfl
          have x1 := k4.cell 1 rfl
          have x2 := k4.cell 2 rfl
          have hf := k1.free
          have c0 : wp.cell? ⟨w.heap.size + 1, 78, none⟩ = some (.int .i64 0) := k1.cell 78 (by kernel_rfl)
          have c1 : wp.cell? ⟨w.heap.size + 1, 79, none⟩ = some (.int .i64 0) := k1.cell 79 (by kernel_rfl)
          have c2 : wp.cell? ⟨w.heap.size + 1, 80, none⟩ = some (.int .i64 0) := k1.cell 80 (by kernel_rfl)
          have c3 : wp.cell? ⟨w.heap.size + 1, 81, none⟩ = some (.int .i64 0) := k1.cell 81 (by kernel_rfl)
          have c4 : wp.cell? ⟨w.heap.size + 1, 82, none⟩ = some (.int .i64 0) := k1.cell 82 (by kernel_rfl)
          have c5 : wp.cell? ⟨w.heap.size + 1, 83, none⟩ = some (.int .i64 0) := k1.cell 83 (by kernel_rfl)
          have K0 := Lib.hid k0
          have K1 := Lib.hid k1
          have K4 := Lib.hid k4
          have Kx := Lib.hid kx
          clear k0 k1 k4 kx
          simp only [show ((20 + 2 * 3 : Nat) : Int) = 26 from rfl, show ((3 : Nat) : Int) = 3 from rfl]
          go_wp2
          go_region
          have k0 := (((((((K0.out.farCell (k := w.heap.size + 1) (by omega) 78 (.int .i64 (15))).farCell (k := w.heap.size + 1) (by omega) 79 (.int .i64 (-8))).farCell (k := w.heap.size + 1) (by omega) 80 (.int .i64 (17))).farCell (k := w.heap.size + 1) (by omega) 81 (.int .i64 (15))).farCell (k := w.heap.size + 1) (by omega) 82 (.int .i64 (8))).farCell (k := w.heap.size + 1) (by omega) 83 (.int .i64 (17))).ext (Ext.refl _).drew)
          have k4 := (((((((K4.out.farCell (k := w.heap.size + 1) (by omega) 78 (.int .i64 (15))).farCell (k := w.heap.size + 1) (by omega) 79 (.int .i64 (-8))).farCell (k := w.heap.size + 1) (by omega) 80 (.int .i64 (17))).farCell (k := w.heap.size + 1) (by omega) 81 (.int .i64 (15))).farCell (k := w.heap.size + 1) (by omega) 82 (.int .i64 (8))).farCell (k := w.heap.size + 1) (by omega) 83 (.int .i64 (17))).ext (Ext.refl _).drew)
          have k1 := (((((((K1.out.setCell 78 (.int .i64 (15))).setCell 79 (.int .i64 (-8))).setCell 80 (.int .i64 (17))).setCell 81 (.int .i64 (15))).setCell 82 (.int .i64 (8))).setCell 83 (.int .i64 (17))).ext (Ext.refl _).drew)
          rw [show (((((((tabC (20 + 2 * 3)).setIfInBounds 78 (.int .i64 (15))).setIfInBounds 79 (.int .i64 (-8))).setIfInBounds 80 (.int .i64 (17))).setIfInBounds 81 (.int .i64 (15))).setIfInBounds 82 (.int .i64 (8))).setIfInBounds 83 (.int .i64 (17))) = tabC (20 + 2 * 4) by kernel_rfl] at k1
          have kx := ((((((((((((Kx.out).setCell (p := ⟨w.heap.size + 1, 78, none⟩) (by simp) (.int .i64 (15)))).setCell (p := ⟨w.heap.size + 1, 79, none⟩) (by simp) (.int .i64 (-8)))).setCell (p := ⟨w.heap.size + 1, 80, none⟩) (by simp) (.int .i64 (17)))).setCell (p := ⟨w.heap.size + 1, 81, none⟩) (by simp) (.int .i64 (15)))).setCell (p := ⟨w.heap.size + 1, 82, none⟩) (by simp) (.int .i64 (8)))).setCell (p := ⟨w.heap.size + 1, 83, none⟩) (by simp) (.int .i64 (17))).drew
          generalize (((((((wp.setCell ⟨w.heap.size + 1, 78, none⟩ (.int .i64 (15))).setCell ⟨w.heap.size + 1, 79, none⟩ (.int .i64 (-8))).setCell ⟨w.heap.size + 1, 80, none⟩ (.int .i64 (17))).setCell ⟨w.heap.size + 1, 81, none⟩ (.int .i64 (15))).setCell ⟨w.heap.size + 1, 82, none⟩ (.int .i64 (8))).setCell ⟨w.heap.size + 1, 83, none⟩ (.int .i64 (17)))).drew = wq at *
          clear x0 x1 x2 c0 c1 c2 c3 c4 c5 hf K0 K1 K4 Kx
          go_wp2
          go_roundw
          case rel => exact ⟨4, by omega, rfl, rfl, kx, k0, k1, k4⟩
          case measure => simp [intOf]
        · have k1 : Whole wp (w.heap.size + 1) (tabC 28) 99 := k1
          have hrow : TRow wp (some ⟨w.heap.size + 1, 60, none⟩) ((turns.drop 20).take 8) := k1.row 60 _ (by kernel_rfl)
          have hsrt : Calls Try.prog 78 #[.slice (some ⟨w.heap.size + 1, 60, none⟩) 8 8, .func (.func 79) #[] #[]] wp fun e w' => e = .returned (.tuple #[]) ∧ Ext wp w' := sort_turns _ 8 ((turns.drop 20).take 8) wp hrow (by decide) (sorted_of (by decide))
          have sl : ∀ (g : Nat) (w : World), (Instr.sliceAt 99 (.pointer (some ⟨g, 0, none⟩)) (some (.int .i64 20)) (some (.int .i64 28)) (some (.int .i64 28))).run Try.prog w = .ok (.slice (some ⟨g, 60, none⟩) 8 8) w := fun _ _ => by kernel_rfl
          have Hs := Lib.hid hsrt
          clear hsrt hrow
          simp only [show ((20 + 2 * 4 : Nat) : Int) = 28 from rfl, show ((4 : Nat) : Int) = 4 from rfl]
          go_wp2_with (go_at_call 78; refine Hs.out.mono ?_; rintro e w5 ⟨rfl, hx5⟩)
          go_roundw
          case rel => exact ⟨3, by omega, rfl, rfl, kx.trans hx5, k0.ext hx5, k1.ext hx5⟩
          case measure => simp [intOf]
    · skip
      clear x0 x1 x2 x3
      have x3 : ∀ w : World, (Instr.index 129 (.agg #[.int .i64 (4), .int .i64 (3), .int .i64 (5), .int .i64 (12), .int .i64 (5), .int .i64 (13), .int .i64 (15), .int .i64 (8), .int .i64 (17), .int .i64 (24), .int .i64 (7), .int .i64 (25)]) (.int .i64 3)).run Try.prog w = .ok (.agg #[.int .i64 (24), .int .i64 (7), .int .i64 (25)]) w := fun _ => by kernel_rfl
      have y0 : ∀ w : World, (Instr.index 130 (.agg #[.int .i64 (-24), .int .i64 (-7), .int .i64 (7), .int .i64 (24)]) (.int .i64 0)).run Try.prog w = .ok (.int .i64 (-24)) w := fun _ => by kernel_rfl
      have y1 : ∀ w : World, (Instr.index 130 (.agg #[.int .i64 (-24), .int .i64 (-7), .int .i64 (7), .int .i64 (24)]) (.int .i64 1)).run Try.prog w = .ok (.int .i64 (-7)) w := fun _ => by kernel_rfl
      have y2 : ∀ w : World, (Instr.index 130 (.agg #[.int .i64 (-24), .int .i64 (-7), .int .i64 (7), .int .i64 (24)]) (.int .i64 2)).run Try.prog w = .ok (.int .i64 (7)) w := fun _ => by kernel_rfl
      have y3 : ∀ w : World, (Instr.index 130 (.agg #[.int .i64 (-24), .int .i64 (-7), .int .i64 (7), .int .i64 (24)]) (.int .i64 3)).run Try.prog w = .ok (.int .i64 (24)) w := fun _ => by kernel_rfl
      go_wp2
      have hx4 : Ext wo (wo.alloc (.cells #[.int .i64 24, .int .i64 7, .int .i64 25] 98)) := by simp
      have k4 : Whole (wo.alloc (.cells #[.int .i64 24, .int .i64 7, .int .i64 25] 98)) wo.heap.size #[.int .i64 24, .int .i64 7, .int .i64 25] 98 := Whole.new rfl
      have k0 := K0.out.ext hx4
      have k1 := K1.out.ext hx4
      have kx := Kx.out.trans hx4
      generalize (wo.alloc (.cells #[.int .i64 24, .int .i64 7, .int .i64 25] 98)) = W4 at *
      have k1 : Whole W4 (w.heap.size + 1) (tabC 28) 99 := k1
      have hg4 : w.heap.size + 1 < wo.heap.size := K1.out.blk.lt
      generalize wo.heap.size = g4 at *
      simp only [show ((4 + 8 * 3 : Nat) : Int) = 28 from rfl, show ((3 : Nat) : Int) = 3 from rfl]
      clear K0 K1 Kx hx4
      go_loopw [34, 2] (fun i n wr => ∃ k : Nat, k ≤ 4 ∧ i = .int .i64 k ∧ n = .int .i64 ((28 + 2 * k : Nat) : Int) ∧ Ext w wr ∧ Whole wr w.heap.size Try.zeroCells99 99 ∧ Whole wr (w.heap.size + 1) (tabC (28 + 2 * k)) 99 ∧ Whole wr g4 #[.int .i64 24, .int .i64 7, .int .i64 25] 98) (fun i _ _ => 4 - (intOf i).toNat)
      case atStart => exact ⟨0, by omega, rfl, rfl, kx, k0, k1, k4⟩
      case round =>
        obtain ⟨k, hk, rfl, rfl, kx, k0, k1, k4⟩ := hrel
        obtain ⟨wp, rfl⟩ : ∃ wp : World, wp = wr := ⟨_, rfl⟩
        rcases (by omega : k = 0 ∨ k = 1 ∨ k = 2 ∨ k = 3 ∨ k = 4) with rfl | rfl | rfl | rfl | rfl
        · have x0 := k4.cell 0 rfl
          have x1 := k4.cell 1 rfl
          have x2 := k4.cell 2 rfl
          have hf := k1.free
          have c0 : wp.cell? ⟨w.heap.size + 1, 84, none⟩ = some (.int .i64 0) := k1.cell 84 (by kernel_rfl)
          have c1 : wp.cell? ⟨w.heap.size + 1, 85, none⟩ = some (.int .i64 0) := k1.cell 85 (by kernel_rfl)
          have c2 : wp.cell? ⟨w.heap.size + 1, 86, none⟩ = some (.int .i64 0) := k1.cell 86 (by kernel_rfl)
          have c3 : wp.cell? ⟨w.heap.size + 1, 87, none⟩ = some (.int .i64 0) := k1.cell 87 (by kernel_rfl)
          have c4 : wp.cell? ⟨w.heap.size + 1, 88, none⟩ = some (.int .i64 0) := k1.cell 88 (by kernel_rfl)
          have c5 : wp.cell? ⟨w.heap.size + 1, 89, none⟩ = some (.int .i64 0) := k1.cell 89 (by kernel_rfl)
          have K0 := Lib.hid k0
          have K1 := Lib.hid k1
          have K4 := Lib.hid k4
          have Kx := Lib.hid kx
          clear k0 k1 k4 kx
          simp only [show ((28 + 2 * 0 : Nat) : Int) = 28 from rfl, show ((0 : Nat) : Int) = 0 from rfl]
          go_wp2
          go_region
          have k0 := (((((((K0.out.farCell (k := w.heap.size + 1) (by omega) 84 (.int .i64 (-24))).farCell (k := w.heap.size + 1) (by omega) 85 (.int .i64 (-7))).farCell (k := w.heap.size + 1) (by omega) 86 (.int .i64 (25))).farCell (k := w.heap.size + 1) (by omega) 87 (.int .i64 (-24))).farCell (k := w.heap.size + 1) (by omega) 88 (.int .i64 (7))).farCell (k := w.heap.size + 1) (by omega) 89 (.int .i64 (25))).ext (Ext.refl _).drew)
          have k4 := (((((((K4.out.farCell (k := w.heap.size + 1) (by omega) 84 (.int .i64 (-24))).farCell (k := w.heap.size + 1) (by omega) 85 (.int .i64 (-7))).farCell (k := w.heap.size + 1) (by omega) 86 (.int .i64 (25))).farCell (k := w.heap.size + 1) (by omega) 87 (.int .i64 (-24))).farCell (k := w.heap.size + 1) (by omega) 88 (.int .i64 (7))).farCell (k := w.heap.size + 1) (by omega) 89 (.int .i64 (25))).ext (Ext.refl _).drew)
          have k1 := (((((((K1.out.setCell 84 (.int .i64 (-24))).setCell 85 (.int .i64 (-7))).setCell 86 (.int .i64 (25))).setCell 87 (.int .i64 (-24))).setCell 88 (.int .i64 (7))).setCell 89 (.int .i64 (25))).ext (Ext.refl _).drew)
          rw [show (((((((tabC (28 + 2 * 0)).setIfInBounds 84 (.int .i64 (-24))).setIfInBounds 85 (.int .i64 (-7))).setIfInBounds 86 (.int .i64 (25))).setIfInBounds 87 (.int .i64 (-24))).setIfInBounds 88 (.int .i64 (7))).setIfInBounds 89 (.int .i64 (25))) = tabC (28 + 2 * 1) by kernel_rfl] at k1
          have kx := ((((((((((((Kx.out).setCell (p := ⟨w.heap.size + 1, 84, none⟩) (by simp) (.int .i64 (-24)))).setCell (p := ⟨w.heap.size + 1, 85, none⟩) (by simp) (.int .i64 (-7)))).setCell (p := ⟨w.heap.size + 1, 86, none⟩) (by simp) (.int .i64 (25)))).setCell (p := ⟨w.heap.size + 1, 87, none⟩) (by simp) (.int .i64 (-24)))).setCell (p := ⟨w.heap.size + 1, 88, none⟩) (by simp) (.int .i64 (7)))).setCell (p := ⟨w.heap.size + 1, 89, none⟩) (by simp) (.int .i64 (25))).drew
          generalize (((((((wp.setCell ⟨w.heap.size + 1, 84, none⟩ (.int .i64 (-24))).setCell ⟨w.heap.size + 1, 85, none⟩ (.int .i64 (-7))).setCell ⟨w.heap.size + 1, 86, none⟩ (.int .i64 (25))).setCell ⟨w.heap.size + 1, 87, none⟩ (.int .i64 (-24))).setCell ⟨w.heap.size + 1, 88, none⟩ (.int .i64 (7))).setCell ⟨w.heap.size + 1, 89, none⟩ (.int .i64 (25)))).drew = wq at *
          clear x0 x1 x2 c0 c1 c2 c3 c4 c5 hf K0 K1 K4 Kx
          go_wp2
          go_roundw
          case rel => exact ⟨1, by omega, rfl, rfl, kx, k0, k1, k4⟩
          case measure => simp [intOf]
        · have x0 := k4.cell 0 rfl
          have x1 := k4.cell 1 rfl
          have x2 := k4.cell 2 rfl
          have hf := k1.free
          have c0 : wp.cell? ⟨w.heap.size + 1, 90, none⟩ = some (.int .i64 0) := k1.cell 90 (by kernel_rfl)
          have c1 : wp.cell? ⟨w.heap.size + 1, 91, none⟩ = some (.int .i64 0) := k1.cell 91 (by kernel_rfl)
          have c2 : wp.cell? ⟨w.heap.size + 1, 92, none⟩ = some (.int .i64 0) := k1.cell 92 (by kernel_rfl)
          have c3 : wp.cell? ⟨w.heap.size + 1, 93, none⟩ = some (.int .i64 0) := k1.cell 93 (by kernel_rfl)
          have c4 : wp.cell? ⟨w.heap.size + 1, 94, none⟩ = some (.int .i64 0) := k1.cell 94 (by kernel_rfl)
          have c5 : wp.cell? ⟨w.heap.size + 1, 95, none⟩ = some (.int .i64 0) := k1.cell 95 (by kernel_rfl)
          have K0 := Lib.hid k0
          have K1 := Lib.hid k1
          have K4 := Lib.hid k4
          have Kx := Lib.hid kx
          clear k0 k1 k4 kx
          simp only [show ((28 + 2 * 1 : Nat) : Int) = 30 from rfl, show ((1 : Nat) : Int) = 1 from rfl]
          go_wp2
          go_region
          have k0 := (((((((K0.out.farCell (k := w.heap.size + 1) (by omega) 90 (.int .i64 (-7))).farCell (k := w.heap.size + 1) (by omega) 91 (.int .i64 (-24))).farCell (k := w.heap.size + 1) (by omega) 92 (.int .i64 (25))).farCell (k := w.heap.size + 1) (by omega) 93 (.int .i64 (-7))).farCell (k := w.heap.size + 1) (by omega) 94 (.int .i64 (24))).farCell (k := w.heap.size + 1) (by omega) 95 (.int .i64 (25))).ext (Ext.refl _).drew)
          have k4 := (((((((K4.out.farCell (k := w.heap.size + 1) (by omega) 90 (.int .i64 (-7))).farCell (k := w.heap.size + 1) (by omega) 91 (.int .i64 (-24))).farCell (k := w.heap.size + 1) (by omega) 92 (.int .i64 (25))).farCell (k := w.heap.size + 1) (by omega) 93 (.int .i64 (-7))).farCell (k := w.heap.size + 1) (by omega) 94 (.int .i64 (24))).farCell (k := w.heap.size + 1) (by omega) 95 (.int .i64 (25))).ext (Ext.refl _).drew)
          have k1 := (((((((K1.out.setCell 90 (.int .i64 (-7))).setCell 91 (.int .i64 (-24))).setCell 92 (.int .i64 (25))).setCell 93 (.int .i64 (-7))).setCell 94 (.int .i64 (24))).setCell 95 (.int .i64 (25))).ext (Ext.refl _).drew)
          rw [show (((((((tabC (28 + 2 * 1)).setIfInBounds 90 (.int .i64 (-7))).setIfInBounds 91 (.int .i64 (-24))).setIfInBounds 92 (.int .i64 (25))).setIfInBounds 93 (.int .i64 (-7))).setIfInBounds 94 (.int .i64 (24))).setIfInBounds 95 (.int .i64 (25))) = tabC (28 + 2 * 2) by kernel_rfl] at k1
          have kx := ((((((((((((Kx.out).setCell (p := ⟨w.heap.size + 1, 90, none⟩) (by simp) (.int .i64 (-7)))).setCell (p := ⟨w.heap.size + 1, 91, none⟩) (by simp) (.int .i64 (-24)))).setCell (p := ⟨w.heap.size + 1, 92, none⟩) (by simp) (.int .i64 (25)))).setCell (p := ⟨w.heap.size + 1, 93, none⟩) (by simp) (.int .i64 (-7)))).setCell (p := ⟨w.heap.size + 1, 94, none⟩) (by simp) (.int .i64 (24)))).setCell (p := ⟨w.heap.size + 1, 95, none⟩) (by simp) (.int .i64 (25))).drew
          generalize (((((((wp.setCell ⟨w.heap.size + 1, 90, none⟩ (.int .i64 (-7))).setCell ⟨w.heap.size + 1, 91, none⟩ (.int .i64 (-24))).setCell ⟨w.heap.size + 1, 92, none⟩ (.int .i64 (25))).setCell ⟨w.heap.size + 1, 93, none⟩ (.int .i64 (-7))).setCell ⟨w.heap.size + 1, 94, none⟩ (.int .i64 (24))).setCell ⟨w.heap.size + 1, 95, none⟩ (.int .i64 (25)))).drew = wq at *
          clear x0 x1 x2 c0 c1 c2 c3 c4 c5 hf K0 K1 K4 Kx
          go_wp2
          go_roundw
          case rel => exact ⟨2, by omega, rfl, rfl, kx, k0, k1, k4⟩
          case measure => simp [intOf]
        · have x0 := k4.cell 0 rfl
          have x1 := k4.cell 1 rfl
          have x2 := k4.cell 2 rfl
          have hf := k1.free
          have c0 : wp.cell? ⟨w.heap.size + 1, 96, none⟩ = some (.int .i64 0) := k1.cell 96 (by kernel_rfl)
          have c1 : wp.cell? ⟨w.heap.size + 1, 97, none⟩ = some (.int .i64 0) := k1.cell 97 (by kernel_rfl)
          have c2 : wp.cell? ⟨w.heap.size + 1, 98, none⟩ = some (.int .i64 0) := k1.cell 98 (by kernel_rfl)
          have c3 : wp.cell? ⟨w.heap.size + 1, 99, none⟩ = some (.int .i64 0) := k1.cell 99 (by kernel_rfl)
          have c4 : wp.cell? ⟨w.heap.size + 1, 100, none⟩ = some (.int .i64 0) := k1.cell 100 (by kernel_rfl)
          have c5 : wp.cell? ⟨w.heap.size + 1, 101, none⟩ = some (.int .i64 0) := k1.cell 101 (by kernel_rfl)
          have K0 := Lib.hid k0
          have K1 := Lib.hid k1
          have K4 := Lib.hid k4
          have Kx := Lib.hid kx
          clear k0 k1 k4 kx
          simp only [show ((28 + 2 * 2 : Nat) : Int) = 32 from rfl, show ((2 : Nat) : Int) = 2 from rfl]
          go_wp2
          go_region
          have k0 := (((((((K0.out.farCell (k := w.heap.size + 1) (by omega) 96 (.int .i64 (7))).farCell (k := w.heap.size + 1) (by omega) 97 (.int .i64 (-24))).farCell (k := w.heap.size + 1) (by omega) 98 (.int .i64 (25))).farCell (k := w.heap.size + 1) (by omega) 99 (.int .i64 (7))).farCell (k := w.heap.size + 1) (by omega) 100 (.int .i64 (24))).farCell (k := w.heap.size + 1) (by omega) 101 (.int .i64 (25))).ext (Ext.refl _).drew)
          have k4 := (((((((K4.out.farCell (k := w.heap.size + 1) (by omega) 96 (.int .i64 (7))).farCell (k := w.heap.size + 1) (by omega) 97 (.int .i64 (-24))).farCell (k := w.heap.size + 1) (by omega) 98 (.int .i64 (25))).farCell (k := w.heap.size + 1) (by omega) 99 (.int .i64 (7))).farCell (k := w.heap.size + 1) (by omega) 100 (.int .i64 (24))).farCell (k := w.heap.size + 1) (by omega) 101 (.int .i64 (25))).ext (Ext.refl _).drew)
          have k1 := (((((((K1.out.setCell 96 (.int .i64 (7))).setCell 97 (.int .i64 (-24))).setCell 98 (.int .i64 (25))).setCell 99 (.int .i64 (7))).setCell 100 (.int .i64 (24))).setCell 101 (.int .i64 (25))).ext (Ext.refl _).drew)
          rw [show (((((((tabC (28 + 2 * 2)).setIfInBounds 96 (.int .i64 (7))).setIfInBounds 97 (.int .i64 (-24))).setIfInBounds 98 (.int .i64 (25))).setIfInBounds 99 (.int .i64 (7))).setIfInBounds 100 (.int .i64 (24))).setIfInBounds 101 (.int .i64 (25))) = tabC (28 + 2 * 3) by kernel_rfl] at k1
          have kx := ((((((((((((Kx.out).setCell (p := ⟨w.heap.size + 1, 96, none⟩) (by simp) (.int .i64 (7)))).setCell (p := ⟨w.heap.size + 1, 97, none⟩) (by simp) (.int .i64 (-24)))).setCell (p := ⟨w.heap.size + 1, 98, none⟩) (by simp) (.int .i64 (25)))).setCell (p := ⟨w.heap.size + 1, 99, none⟩) (by simp) (.int .i64 (7)))).setCell (p := ⟨w.heap.size + 1, 100, none⟩) (by simp) (.int .i64 (24)))).setCell (p := ⟨w.heap.size + 1, 101, none⟩) (by simp) (.int .i64 (25))).drew
          generalize (((((((wp.setCell ⟨w.heap.size + 1, 96, none⟩ (.int .i64 (7))).setCell ⟨w.heap.size + 1, 97, none⟩ (.int .i64 (-24))).setCell ⟨w.heap.size + 1, 98, none⟩ (.int .i64 (25))).setCell ⟨w.heap.size + 1, 99, none⟩ (.int .i64 (7))).setCell ⟨w.heap.size + 1, 100, none⟩ (.int .i64 (24))).setCell ⟨w.heap.size + 1, 101, none⟩ (.int .i64 (25)))).drew = wq at *
          clear x0 x1 x2 c0 c1 c2 c3 c4 c5 hf K0 K1 K4 Kx
          go_wp2
          go_roundw
          case rel => exact ⟨3, by omega, rfl, rfl, kx, k0, k1, k4⟩
          case measure => simp [intOf]
        · have x0 := k4.cell 0 rfl
          have x1 := k4.cell 1 rfl
          have x2 := k4.cell 2 rfl
          have hf := k1.free
          have c0 : wp.cell? ⟨w.heap.size + 1, 102, none⟩ = some (.int .i64 0) := k1.cell 102 (by kernel_rfl)
          have c1 : wp.cell? ⟨w.heap.size + 1, 103, none⟩ = some (.int .i64 0) := k1.cell 103 (by kernel_rfl)
          have c2 : wp.cell? ⟨w.heap.size + 1, 104, none⟩ = some (.int .i64 0) := k1.cell 104 (by kernel_rfl)
          have c3 : wp.cell? ⟨w.heap.size + 1, 105, none⟩ = some (.int .i64 0) := k1.cell 105 (by kernel_rfl)
          have c4 : wp.cell? ⟨w.heap.size + 1, 106, none⟩ = some (.int .i64 0) := k1.cell 106 (by kernel_rfl)
          have c5 : wp.cell? ⟨w.heap.size + 1, 107, none⟩ = some (.int .i64 0) := k1.cell 107 (by kernel_rfl)
          have K0 := Lib.hid k0
          have K1 := Lib.hid k1
          have K4 := Lib.hid k4
          have Kx := Lib.hid kx
          clear k0 k1 k4 kx
          simp only [show ((28 + 2 * 3 : Nat) : Int) = 34 from rfl, show ((3 : Nat) : Int) = 3 from rfl]
          go_wp2
          go_region
          have k0 := (((((((K0.out.farCell (k := w.heap.size + 1) (by omega) 102 (.int .i64 (24))).farCell (k := w.heap.size + 1) (by omega) 103 (.int .i64 (-7))).farCell (k := w.heap.size + 1) (by omega) 104 (.int .i64 (25))).farCell (k := w.heap.size + 1) (by omega) 105 (.int .i64 (24))).farCell (k := w.heap.size + 1) (by omega) 106 (.int .i64 (7))).farCell (k := w.heap.size + 1) (by omega) 107 (.int .i64 (25))).ext (Ext.refl _).drew)
          have k4 := (((((((K4.out.farCell (k := w.heap.size + 1) (by omega) 102 (.int .i64 (24))).farCell (k := w.heap.size + 1) (by omega) 103 (.int .i64 (-7))).farCell (k := w.heap.size + 1) (by omega) 104 (.int .i64 (25))).farCell (k := w.heap.size + 1) (by omega) 105 (.int .i64 (24))).farCell (k := w.heap.size + 1) (by omega) 106 (.int .i64 (7))).farCell (k := w.heap.size + 1) (by omega) 107 (.int .i64 (25))).ext (Ext.refl _).drew)
          have k1 := (((((((K1.out.setCell 102 (.int .i64 (24))).setCell 103 (.int .i64 (-7))).setCell 104 (.int .i64 (25))).setCell 105 (.int .i64 (24))).setCell 106 (.int .i64 (7))).setCell 107 (.int .i64 (25))).ext (Ext.refl _).drew)
          rw [show (((((((tabC (28 + 2 * 3)).setIfInBounds 102 (.int .i64 (24))).setIfInBounds 103 (.int .i64 (-7))).setIfInBounds 104 (.int .i64 (25))).setIfInBounds 105 (.int .i64 (24))).setIfInBounds 106 (.int .i64 (7))).setIfInBounds 107 (.int .i64 (25))) = tabC (28 + 2 * 4) by kernel_rfl] at k1
          have kx := ((((((((((((Kx.out).setCell (p := ⟨w.heap.size + 1, 102, none⟩) (by simp) (.int .i64 (24)))).setCell (p := ⟨w.heap.size + 1, 103, none⟩) (by simp) (.int .i64 (-7)))).setCell (p := ⟨w.heap.size + 1, 104, none⟩) (by simp) (.int .i64 (25)))).setCell (p := ⟨w.heap.size + 1, 105, none⟩) (by simp) (.int .i64 (24)))).setCell (p := ⟨w.heap.size + 1, 106, none⟩) (by simp) (.int .i64 (7)))).setCell (p := ⟨w.heap.size + 1, 107, none⟩) (by simp) (.int .i64 (25))).drew
          generalize (((((((wp.setCell ⟨w.heap.size + 1, 102, none⟩ (.int .i64 (24))).setCell ⟨w.heap.size + 1, 103, none⟩ (.int .i64 (-7))).setCell ⟨w.heap.size + 1, 104, none⟩ (.int .i64 (25))).setCell ⟨w.heap.size + 1, 105, none⟩ (.int .i64 (24))).setCell ⟨w.heap.size + 1, 106, none⟩ (.int .i64 (7))).setCell ⟨w.heap.size + 1, 107, none⟩ (.int .i64 (25)))).drew = wq at *
          clear x0 x1 x2 c0 c1 c2 c3 c4 c5 hf K0 K1 K4 Kx
          go_wp2
          go_roundw
          case rel => exact ⟨4, by omega, rfl, rfl, kx, k0, k1, k4⟩
          case measure => simp [intOf]
        · have k1 : Whole wp (w.heap.size + 1) (tabC 36) 99 := k1
          have hrow : TRow wp (some ⟨w.heap.size + 1, 84, none⟩) ((turns.drop 28).take 8) := k1.row 84 _ (by kernel_rfl)
          have hsrt : Calls Try.prog 78 #[.slice (some ⟨w.heap.size + 1, 84, none⟩) 8 8, .func (.func 79) #[] #[]] wp fun e w' => e = .returned (.tuple #[]) ∧ Ext wp w' := sort_turns _ 8 ((turns.drop 28).take 8) wp hrow (by decide) (sorted_of (by decide))
          have sl : ∀ (g : Nat) (w : World), (Instr.sliceAt 99 (.pointer (some ⟨g, 0, none⟩)) (some (.int .i64 28)) (some (.int .i64 36)) (some (.int .i64 36))).run Try.prog w = .ok (.slice (some ⟨g, 84, none⟩) 8 8) w := fun _ _ => by kernel_rfl
          have Hs := Lib.hid hsrt
          clear hsrt hrow
          simp only [show ((28 + 2 * 4 : Nat) : Int) = 36 from rfl, show ((4 : Nat) : Int) = 4 from rfl]
          go_wp2_with (go_at_call 78; refine Hs.out.mono ?_; rintro e w5 ⟨rfl, hx5⟩)
          go_roundw
          case rel => exact ⟨4, by omega, rfl, rfl, kx.trans hx5, k0.ext hx5, k1.ext hx5⟩
          case measure => simp [intOf]
    · have k1 : Whole wo (w.heap.size + 1) (tabC 36) 99 := K1.out
      have k0 := K0.out
      clear x0 x1 x2 x3 K1 K0
      simp only [show ((4 : Nat) : Int) = 4 from rfl]
      go_wp2_with (first
        | (refine wpList_load_row rfl 99 (.tmp 1) rfl (w.heap.size + 1) rfl 99 (tabC 36) (0, 0) _ k1.h Try.underlying99 rfl (by kernel_rfl) ?_)
        | (refine wpList_store_row rfl 99 (.tmp 0) (.tmp 72) rfl w.heap.size (tabC 36) rfl (by kernel_rfl) 99 Try.zeroCells99 k0.h (by kernel_rfl) (by kernel_rfl) (by kernel_rfl) ?_))
      refine bodyPost_ret (results_cell_row rfl _ _ w.heap.size 99 (tabC 36) (0, 0) _ rfl k0.set.h Try.underlying99 rfl (by kernel_rfl)) rfl ?_
      exact ⟨by rw [show tabC 36 = (turns.flatMap tcells).toArray by kernel_rfl], Ext.setRow Kx.out (Nat.le_refl _)⟩
end Go.Proofs.Yteilglljigjefaa

/- All angles, by the reference: a search. -/
namespace Go.Proofs.Yteilglljigjefaa
open Go.RowKit

def tqB (r p q : Int) : Bool := decide (p * p + q * q = r * r ∧ Int.gcd (Int.gcd p q) r = 1)
def T1 (r p : Int) (m : Nat) : List (Int × Int × Int) := (List.range m).flatMap fun (j : Nat) => if tqB r p ((j : Int) - r) = true then [(p, (j : Int) - r, r)] else []
def T2 (r : Nat) (m : Nat) : List (Int × Int × Int) := (List.range m).flatMap fun (i : Nat) => T1 r ((i : Int) - r) (2 * r + 1)
def rsL : List Nat := [1, 5, 13, 17, 25]
def rsA (k : Nat) : Nat := rsL.getD k 1
def T3 (m : Nat) : List (Int × Int × Int) := (List.range m).flatMap fun k => T2 (rsA k) (2 * rsA k + 1)
theorem T1_skip {r p : Int} {m : Nat} (h : tqB r p ((m : Int) - r) = false) : T1 r p (m + 1) = T1 r p m := by simp [T1, List.range_succ, h]
theorem T1_take {r p : Int} {m : Nat} (h : tqB r p ((m : Int) - r) = true) : T1 r p (m + 1) = T1 r p m ++ [(p, (m : Int) - r, r)] := by simp [T1, List.range_succ, h]
theorem T2_succ (r m : Nat) : T2 r (m + 1) = T2 r m ++ T1 r ((m : Int) - r) (2 * r + 1) := by simp [T2, List.range_succ]
theorem T3_succ (m : Nat) : T3 (m + 1) = T3 m ++ T2 (rsA m) (2 * rsA m + 1) := by simp [T3, List.range_succ]
theorem rsA_le : ∀ k, 1 ≤ rsA k ∧ rsA k ≤ 25
  | 0 | 1 | 2 | 3 | 4 => by decide
  | n + 5 => by simp [rsA, rsL]
theorem T1_len (r p : Int) : ∀ m, (T1 r p m).length ≤ m
  | 0 => by simp [T1]
  | m + 1 => by
    have := T1_len r p m
    cases h : tqB r p ((m : Int) - r)
    · rw [T1_skip h]; omega
    · rw [T1_take h]; simp; omega
theorem T2_len {r : Nat} (hr : r ≤ 25) : ∀ m, (T2 r m).length ≤ 51 * m
  | 0 => by simp [T2]
  | m + 1 => by
    have := T2_len hr m
    have := T1_len r ((m : Int) - r) (2 * r + 1)
    rw [T2_succ, List.length_append]
    omega
theorem T3_len : ∀ m, (T3 m).length ≤ 2601 * m
  | 0 => by simp [T3]
  | m + 1 => by
    have := T3_len m
    have := rsA_le m
    have := T2_len this.2 (2 * rsA m + 1)
    rw [T3_succ, List.length_append]
    omega
set_option maxRecDepth 100000 in
theorem T3_all : T3 5 = turns := by decide +kernel
theorem tri_elem : ElemInfo 92 (.agg #[.int .i64 0, .int .i64 0, .int .i64 0]) 3 24 := ⟨info_parts (by kernel_rfl), rfl, by decide⟩
abbrev OwnT (w1 w : World) (v : Value) (xs : List (Int × Int × Int)) : Prop := Own w1 w 92 3 v xs.length (xs.map tcells).flatten
theorem OwnT.row {w1 w : World} {A : Option Addr} {m c : Nat} {xs : List (Int × Int × Int)} (h : OwnT w1 w (.slice A m c) xs) : TRow w A xs := Own.row h

theorem gcd_bd (P Q : Int) : Int.gcd P Q ≤ P.natAbs + Q.natAbs := by
  show Nat.gcd P.natAbs Q.natAbs ≤ _
  rcases Nat.eq_zero_or_pos P.natAbs with h | h
  · rw [h]; simp
  · have := Nat.gcd_le_left Q.natAbs h
    omega
set_option maxRecDepth 100000 in
set_option maxHeartbeats 8000000 in
theorem turns_ref (w : World) : Calls Try.prog 59 #[] w fun e w' => ∃ A c, e = .returned (.slice A 36 c) ∧ TRow w' A turns ∧ Ext w w' := by
  have hg := fun (a b : Int) (h1 : -1000000000 ≤ a ∧ a ≤ 1000000000) (h2 : -1000000000 ≤ b ∧ b ≤ 1000000000) (w' : World) => gcd_any a b w' h1 h2
  have Hg := Lib.hid hg
  clear hg
  go_enter Try.func59, Try.ntmps59
  go_wp2
  have q0 : ∀ k, k < 5 → ∀ w', Ext (w.alloc (.cells #[.int .i64 1, .int .i64 5, .int .i64 13, .int .i64 17, .int .i64 25] 3)) w' → w'.cell? ⟨w.heap.size, k, none⟩ = some (.int .i64 (rsA k : Nat)) := fun k hk w' he => by
    refine he.cell ?_
    rw [cell_heap (heap_alloc_new w _)]
    rcases (by omega : k = 0 ∨ k = 1 ∨ k = 2 ∨ k = 3 ∨ k = 4) with rfl | rfl | rfl | rfl | rfl <;> rfl
  have hx0 : Ext w (w.alloc (.cells #[.int .i64 1, .int .i64 5, .int .i64 13, .int .i64 17, .int .i64 25] 3)) := by simp
  generalize (w.alloc (.cells #[.int .i64 1, .int .i64 5, .int .i64 13, .int .i64 17, .int .i64 25] 3)) = w0 at *
  generalize w.heap.size = g at *
  have Q0 := Lib.hid q0
  have Hx0 := Lib.hid hx0
  clear q0 hx0
  go_loopw [3, 1] (fun i v wr => ∃ k : Nat, k ≤ 5 ∧ i = .int .i64 k ∧ OwnT w0 wr v (T3 k)) (fun i _ _ => 5 - (intOf i).toNat)
  case atStart => exact ⟨0, by omega, rfl, Own.nil _ _ _⟩
  case round =>
    obtain ⟨k, hk, rfl, hown⟩ := hrel
    obtain ⟨A, c, rfl⟩ := hown.form
    by_cases hlt : k < 5
    · have b0 : decide ((k : Int) < 5) = true := by simp; omega
      have c0 : ∀ w', Ext wr w' → w'.cell? ⟨g, k, none⟩ = some (.int .i64 (rsA k : Nat)) := fun w' he => Q0.out k hlt w' (hown.ext.trans he)
      have hrs := rsA_le k
      have hs3 := T3_succ k
      have hl3 := T3_len k
      have Hs3 := Lib.hid hs3
      clear hs3
      generalize rsA k = r at *
      go_wp2
      obtain ⟨wo, rfl⟩ : ∃ wo : World, wo = wr := ⟨_, rfl⟩
      have Hown := Lib.hid hown
      clear hown
      go_loopw [5, 1] (fun p v wr => ∃ i : Nat, i ≤ 2 * r + 1 ∧ p = .int .i64 ((i : Int) - r) ∧ OwnT w0 wr v (T3 k ++ T2 r i)) (fun p _ _ => (2 * r + 1 - ((intOf p) + r).toNat))
      case atStart => exact ⟨0, by omega, by go_num, by simpa [T2] using Hown.out⟩
      case round =>
        obtain ⟨i, hi, rfl, hown⟩ := hrel
        obtain ⟨A, c, rfl⟩ := hown.form
        have Hown' := Lib.hid hown
        clear hown
        by_cases hlt2 : i < 2 * r + 1
        · have hs2 := T2_succ r i
          have hl2 := T2_len hrs.2 i
          have b1 : -25 ≤ (i : Int) - r ∧ (i : Int) - r ≤ 25 := by omega
          have b2 : (i : Int) - r ≤ r := by omega
          have Hs2 := Lib.hid hs2
          have hpn : ((i : Int) - r) + 1 = ((i + 1 : Nat) : Int) - r := by omega
          have Hpn := Lib.hid hpn
          clear hs2 hpn
          generalize hP : (i : Int) - r = P at *
          have HP := Lib.hid hP
          clear hP
          go_wp2
          obtain ⟨wo2, rfl⟩ : ∃ wo2 : World, wo2 = wr := ⟨_, rfl⟩
          go_loopw [6, 1] (fun q v wr => ∃ j : Nat, j ≤ 2 * r + 1 ∧ q = .int .i64 ((j : Int) - r) ∧ OwnT w0 wr v (T3 k ++ T2 r i ++ T1 r P j)) (fun q _ _ => (2 * r + 1 - ((intOf q) + r).toNat))
          case atStart => exact ⟨0, by omega, by go_num, by simpa [T1] using Hown'.out⟩
          case round =>
            obtain ⟨j, hj, rfl, hown⟩ := hrel
            obtain ⟨A3, c3, rfl⟩ := hown.form
            have hl1 := T1_len r P j
            by_cases hlt3 : j < 2 * r + 1
            · have htk := T1_take (r := (r : Int)) (p := P) (m := j)
              have hsk := T1_skip (r := (r : Int)) (p := P) (m := j)
              have c1 : -25 ≤ (j : Int) - r ∧ (j : Int) - r ≤ 25 := by omega
              have c2 : (j : Int) - r ≤ r := by omega
              have hqn : ((j : Int) - r) + 1 = ((j + 1 : Nat) : Int) - r := by omega
              have Hqn := Lib.hid hqn
              have hm : ((j : Int) - r) + r = j := by omega
              have Hm := Lib.hid hm
              clear hqn hm
              generalize (j : Int) - r = Q at *
              have e1 := prod_le (a := P) (d := 25) (s := P) (m := 25) (by omega) (by omega) (by omega) (by omega)
              have e2 := prod_le (a := Q) (d := 25) (s := Q) (m := 25) (by omega) (by omega) (by omega) (by omega)
              have e3 := prod_le (a := (r : Int)) (d := 25) (s := (r : Int)) (m := 25) (by omega) (by omega) (by omega) (by omega)
              simp only [Int.reduceMul] at e1 e2 e3
              have g1 := gcd_bd P Q
              have hnn : (T3 k ++ T2 r i ++ T1 r P j).length ≤ 2601 * k + 51 * i + j := by simp only [List.length_append]; omega
              have htk2 : tqB r P Q = true → T3 k ++ T2 r i ++ T1 r P (j + 1) = T3 k ++ T2 r i ++ T1 r P j ++ [(P, Q, (r : Int))] := fun h => by rw [htk h, ← List.append_assoc]
              have hsk2 : tqB r P Q = false → T3 k ++ T2 r i ++ T1 r P (j + 1) = T3 k ++ T2 r i ++ T1 r P j := fun h => by rw [hsk h]
              have Htk := Lib.hid htk2
              have Hsk := Lib.hid hsk2
              clear htk hsk htk2 hsk2
              generalize T3 k ++ T2 r i ++ T1 r P j = L at *
              generalize hN : L.length = N at *
              have hown : Own w0 wr 92 3 (.slice A3 N c3) N (L.map tcells).flatten := by rw [← hN] at hown ⊢; exact hown
              have HN := Lib.hid hN
              clear hN
              by_cases h1 : P * P + Q * Q = r * r
              · have t1 : (P * P + Q * Q == (r : Int) * r) = true := by simpa using h1
                have cg1 := Hg.out P Q (by omega) (by omega)
                have cg2 := Hg.out (Int.gcd P Q : Int) (r : Int) (by omega) (by omega)
                have Cg1 := Lib.hid cg1
                have Cg2 := Lib.hid cg2
                clear cg1 cg2
                by_cases h2 : Int.gcd (Int.gcd P Q : Int) r = 1
                · have htq : tqB r P Q = true := decide_eq_true ⟨h1, h2⟩
                  have ht := Htk.out htq
                  have Ht := Lib.hid ht
                  clear ht htq Htk Hsk h1
                  rw [h2] at Cg2
                  generalize Int.gcd P Q = G at *
                  go_wp2_with (first
                    | (go_at_call 85; ((with_reducible refine (Cg1.out _).mono ?_); rintro e w5 ⟨rfl, hx5⟩); have hown5 := hown.later hx5)
                    | (go_at_call 85; ((with_reducible refine (Cg2.out _).mono ?_); rintro e w6 ⟨rfl, hx6⟩); have hown6 := hown5.later hx6)
                    | (at_builtin; refine own_append tri_elem rfl _ _ 108 rfl Try.underlying108 _ _ _ rfl hown6 #[.int .i64 P, .int .i64 Q, .int .i64 r] 1 rfl rfl (by intro u hu; simp at hu; rcases hu with rfl | rfl | rfl <;> rfl) (by omega) (by unfold maxLen; omega) ?_; intro v' w7 h7 _))
                  go_roundw
                  case rel =>
                    refine ⟨j + 1, by omega, by rw [Hqn.out], ?_⟩
                    first | rw [Ht.out] | rw [← List.append_assoc, Ht.out]
                    have e1 : (L ++ [(P, Q, (r : Int))]).length = N + 1 := by simp [HN.out]
                    have e2 : ((L ++ [(P, Q, (r : Int))]).map tcells).flatten = (L.map tcells).flatten ++ [.int .i64 P, .int .i64 Q, .int .i64 r] := by simp [tcells]
                    show Own w0 w7 _ 3 v' (L ++ [(P, Q, (r : Int))]).length _
                    rw [e1, e2]
                    exact h7
                  case measure => simp [intOf]; have := Hm.out; have := Hqn.out; omega
                · have htq : tqB r P Q = false := decide_eq_false fun h => h2 h.2
                  have ht := Hsk.out htq
                  have Ht := Lib.hid ht
                  have h3 : ((Int.gcd (Int.gcd P Q : Int) r : Int) == 1) = false := beq_eq_false_iff_ne.2 (by omega)
                  clear ht htq Htk Hsk h1 h2
                  generalize Int.gcd (Int.gcd P Q : Int) r = G2 at *
                  generalize Int.gcd P Q = G at *
                  go_wp2_with (first
                    | (go_at_call 85; ((with_reducible refine (Cg1.out _).mono ?_); rintro e w5 ⟨rfl, hx5⟩); have hown5 := hown.later hx5)
                    | (go_at_call 85; ((with_reducible refine (Cg2.out _).mono ?_); rintro e w6 ⟨rfl, hx6⟩); have hown6 := hown5.later hx6))
                  go_roundw
                  case rel =>
                    exact ⟨j + 1, by omega, by rw [Hqn.out], by (first | rw [Ht.out] | rw [← List.append_assoc, Ht.out]); show Own w0 _ _ 3 (.slice A3 N c3) L.length _; rw [HN.out]; exact hown6⟩
                  case measure => simp [intOf]; have := Hm.out; have := Hqn.out; omega
              · have htq : tqB r P Q = false := decide_eq_false fun h => h1 h.1
                have ht := Hsk.out htq
                have Ht := Lib.hid ht
                have h3 : (P * P + Q * Q == (r : Int) * r) = false := by simpa using h1
                clear ht htq Htk Hsk h1 Hg
                go_wp2
                go_roundw
                case rel => exact ⟨j + 1, by omega, by rw [Hqn.out], by (first | rw [Ht.out] | rw [← List.append_assoc, Ht.out]); show Own w0 _ _ 3 (.slice A3 N c3) L.length _; rw [HN.out]; exact hown⟩
                case measure => simp [intOf]; have := Hm.out; have := Hqn.out; omega
            · obtain rfl : j = 2 * r + 1 := by omega
              have b4 : ¬ (((2 * r + 1 : Nat) : Int) - r ≤ r) := by omega
              go_wp2
              go_roundw
              case rel => exact ⟨i + 1, by omega, by rw [Hpn.out], by (rw [Hs2.out]; first | exact hown | (rw [← List.append_assoc]; exact hown))⟩
              case measure => simp [intOf]; have := HP.out; omega
        · obtain rfl : i = 2 * r + 1 := by omega
          have b4 : ¬ (((2 * r + 1 : Nat) : Int) - r ≤ r) := by omega
          go_wp2
          go_roundw
          case rel => exact ⟨k + 1, by omega, by go_num, by rw [Hs3.out]; exact Hown'.out⟩
          case measure => simp [intOf]; omega
    · obtain rfl : k = 5 := by omega
      rw [T3_all] at hown
      have hl : turns.length = 36 := rfl
      rw [hl] at hown
      go_wp2
      go_ret
      exact ⟨_, _, rfl, Own.row hown, Hx0.out.trans hown.ext⟩
end Go.Proofs.Yteilglljigjefaa

/- Angle: by the code and by the reference. -/
namespace Go.Proofs.Yteilglljigjefaa
open Go.RowKit
def tabV : Value := .agg (turns.flatMap tcells).toArray
set_option maxRecDepth 100000 in
theorem index_tab (n : Nat) (hn : n < 36) (w : World) : (Instr.index 99 tabV (.int .i64 n)).run Try.prog w = .ok (tval (trn n)) w := by
  match n, hn with
  | 0, _ => exact (by kernel_rfl : (Instr.index 99 tabV (.int .i64 (0 : Nat))).run Try.prog w = .ok (tval (trn 0)) w)
  | 1, _ => exact (by kernel_rfl : (Instr.index 99 tabV (.int .i64 (1 : Nat))).run Try.prog w = .ok (tval (trn 1)) w)
  | 2, _ => exact (by kernel_rfl : (Instr.index 99 tabV (.int .i64 (2 : Nat))).run Try.prog w = .ok (tval (trn 2)) w)
  | 3, _ => exact (by kernel_rfl : (Instr.index 99 tabV (.int .i64 (3 : Nat))).run Try.prog w = .ok (tval (trn 3)) w)
  | 4, _ => exact (by kernel_rfl : (Instr.index 99 tabV (.int .i64 (4 : Nat))).run Try.prog w = .ok (tval (trn 4)) w)
  | 5, _ => exact (by kernel_rfl : (Instr.index 99 tabV (.int .i64 (5 : Nat))).run Try.prog w = .ok (tval (trn 5)) w)
  | 6, _ => exact (by kernel_rfl : (Instr.index 99 tabV (.int .i64 (6 : Nat))).run Try.prog w = .ok (tval (trn 6)) w)
  | 7, _ => exact (by kernel_rfl : (Instr.index 99 tabV (.int .i64 (7 : Nat))).run Try.prog w = .ok (tval (trn 7)) w)
  | 8, _ => exact (by kernel_rfl : (Instr.index 99 tabV (.int .i64 (8 : Nat))).run Try.prog w = .ok (tval (trn 8)) w)
  | 9, _ => exact (by kernel_rfl : (Instr.index 99 tabV (.int .i64 (9 : Nat))).run Try.prog w = .ok (tval (trn 9)) w)
  | 10, _ => exact (by kernel_rfl : (Instr.index 99 tabV (.int .i64 (10 : Nat))).run Try.prog w = .ok (tval (trn 10)) w)
  | 11, _ => exact (by kernel_rfl : (Instr.index 99 tabV (.int .i64 (11 : Nat))).run Try.prog w = .ok (tval (trn 11)) w)
  | 12, _ => exact (by kernel_rfl : (Instr.index 99 tabV (.int .i64 (12 : Nat))).run Try.prog w = .ok (tval (trn 12)) w)
  | 13, _ => exact (by kernel_rfl : (Instr.index 99 tabV (.int .i64 (13 : Nat))).run Try.prog w = .ok (tval (trn 13)) w)
  | 14, _ => exact (by kernel_rfl : (Instr.index 99 tabV (.int .i64 (14 : Nat))).run Try.prog w = .ok (tval (trn 14)) w)
  | 15, _ => exact (by kernel_rfl : (Instr.index 99 tabV (.int .i64 (15 : Nat))).run Try.prog w = .ok (tval (trn 15)) w)
  | 16, _ => exact (by kernel_rfl : (Instr.index 99 tabV (.int .i64 (16 : Nat))).run Try.prog w = .ok (tval (trn 16)) w)
  | 17, _ => exact (by kernel_rfl : (Instr.index 99 tabV (.int .i64 (17 : Nat))).run Try.prog w = .ok (tval (trn 17)) w)
  | 18, _ => exact (by kernel_rfl : (Instr.index 99 tabV (.int .i64 (18 : Nat))).run Try.prog w = .ok (tval (trn 18)) w)
  | 19, _ => exact (by kernel_rfl : (Instr.index 99 tabV (.int .i64 (19 : Nat))).run Try.prog w = .ok (tval (trn 19)) w)
  | 20, _ => exact (by kernel_rfl : (Instr.index 99 tabV (.int .i64 (20 : Nat))).run Try.prog w = .ok (tval (trn 20)) w)
  | 21, _ => exact (by kernel_rfl : (Instr.index 99 tabV (.int .i64 (21 : Nat))).run Try.prog w = .ok (tval (trn 21)) w)
  | 22, _ => exact (by kernel_rfl : (Instr.index 99 tabV (.int .i64 (22 : Nat))).run Try.prog w = .ok (tval (trn 22)) w)
  | 23, _ => exact (by kernel_rfl : (Instr.index 99 tabV (.int .i64 (23 : Nat))).run Try.prog w = .ok (tval (trn 23)) w)
  | 24, _ => exact (by kernel_rfl : (Instr.index 99 tabV (.int .i64 (24 : Nat))).run Try.prog w = .ok (tval (trn 24)) w)
  | 25, _ => exact (by kernel_rfl : (Instr.index 99 tabV (.int .i64 (25 : Nat))).run Try.prog w = .ok (tval (trn 25)) w)
  | 26, _ => exact (by kernel_rfl : (Instr.index 99 tabV (.int .i64 (26 : Nat))).run Try.prog w = .ok (tval (trn 26)) w)
  | 27, _ => exact (by kernel_rfl : (Instr.index 99 tabV (.int .i64 (27 : Nat))).run Try.prog w = .ok (tval (trn 27)) w)
  | 28, _ => exact (by kernel_rfl : (Instr.index 99 tabV (.int .i64 (28 : Nat))).run Try.prog w = .ok (tval (trn 28)) w)
  | 29, _ => exact (by kernel_rfl : (Instr.index 99 tabV (.int .i64 (29 : Nat))).run Try.prog w = .ok (tval (trn 29)) w)
  | 30, _ => exact (by kernel_rfl : (Instr.index 99 tabV (.int .i64 (30 : Nat))).run Try.prog w = .ok (tval (trn 30)) w)
  | 31, _ => exact (by kernel_rfl : (Instr.index 99 tabV (.int .i64 (31 : Nat))).run Try.prog w = .ok (tval (trn 31)) w)
  | 32, _ => exact (by kernel_rfl : (Instr.index 99 tabV (.int .i64 (32 : Nat))).run Try.prog w = .ok (tval (trn 32)) w)
  | 33, _ => exact (by kernel_rfl : (Instr.index 99 tabV (.int .i64 (33 : Nat))).run Try.prog w = .ok (tval (trn 33)) w)
  | 34, _ => exact (by kernel_rfl : (Instr.index 99 tabV (.int .i64 (34 : Nat))).run Try.prog w = .ok (tval (trn 34)) w)
  | 35, _ => exact (by kernel_rfl : (Instr.index 99 tabV (.int .i64 (35 : Nat))).run Try.prog w = .ok (tval (trn 35)) w)
  | n + 36, h => omega
theorem table_val (w : World) : Calls Try.prog 52 #[] w fun e w' => e = .returned tabV ∧ Ext w w' := table_any w
/-- What an angle's number gives. -/
def angS (n : Int) : Int × Int × Int := if 0 ≤ n ∧ n < 36 then trn n.toNat else (0, 0, 0)
def angE (n : Int) : Int := if 0 ≤ n ∧ n < 36 then 0 else 2
theorem ang_nat {n : Nat} (h : n < 36) : angS n = trn n ∧ angE n = 0 := by
  unfold angS angE
  rw [if_pos (by omega), if_pos (by omega)]
  exact ⟨rfl, rfl⟩
theorem ang_bad {n : Int} (h : ¬ (0 ≤ n ∧ n < 36)) : angS n = (0, 0, 0) ∧ angE n = 2 := by
  unfold angS angE
  rw [if_neg h, if_neg h]
  exact ⟨rfl, rfl⟩
abbrev angV (n : Int) : Value := .tuple #[.int .i64 (angS n).1, .int .i64 (angS n).2.1, .int .i64 (angS n).2.2, .int .i64 (angE n)]
theorem results_four {fn : Func} {a b c d : Tmp} (h : fn.results = #[.tmp a, .tmp b, .tmp c, .tmp d]) (tmps : Array Value) (w : World) :
    (results fn tmps).run Try.prog w = .ok (.tuple #[tmps.getD a undef, tmps.getD b undef, tmps.getD c undef, tmps.getD d undef]) w := by
  simp [results, h]
theorem ret_angle {p q r e : Int} {n : Int} (h1 : (p, q, r) = angS n) (h2 : e = angE n) : Ending.returned (.tuple #[.int .i64 p, .int .i64 q, .int .i64 r, .int .i64 e]) = .returned (angV n) := by
  unfold angV
  rw [← h1, h2]

set_option maxHeartbeats 1000000 in
theorem angle_any (n : Int) (w : World) : Calls Try.prog 23 #[.int .i64 n] w fun e w' => e = .returned (angV n) ∧ Ext w w' := by
  by_cases hn : 0 ≤ n ∧ n < 36
  · obtain ⟨m, rfl⟩ : ∃ m : Nat, n = m := ⟨n.toNat, by omega⟩
    have hm : m < 36 := by omega
    obtain ⟨a1, a2⟩ := ang_nat hm
    have hi := fun w' => index_tab m hm w'
    have hfin := ret_angle (n := (m : Int)) (p := (trn m).1) (q := (trn m).2.1) (r := (trn m).2.2) a1.symm a2.symm
    have Hfin := Lib.hid hfin
    have ht := table_val
    have Ht := Lib.hid ht
    clear hfin a1 a2 hn ht
    generalize angV (m : Int) = V at *
    generalize trn m = t at *
    generalize tabV = T at *
    obtain ⟨p, q, r⟩ := t
    have b1 : (m : Int) < 36 := by omega
    go_enter Try.func23, Try.ntmps23
    go_wp2_with (go_at_call 52; refine (Ht.out _).mono ?_; rintro e w1 ⟨rfl, h1⟩)
    go_quiet (fail)
    go_wp2
    (try simp only [Exit.inBlock, Exit.then])
    refine bodyPost_ret (results_four rfl _ _) rfl ?_
    exact ⟨Hfin.out, h1.trans (by simp)⟩
  · obtain ⟨a1, a2⟩ := ang_bad hn
    have hfin := ret_angle (n := n) a1.symm a2.symm
    have Hfin := Lib.hid hfin
    clear hfin a1 a2
    generalize angV n = V at *
    by_cases h0 : n < 0
    · have d0 : decide (n < 0) = true := by simpa using h0
      go_enter Try.func23, Try.ntmps23
      go_wp2
      (try simp only [Exit.inBlock, Exit.then])
      refine bodyPost_ret (results_four rfl _ _) rfl ?_
      exact ⟨Hfin.out, by simp⟩
    · have d0 : decide (n < 0) = false := by simpa using h0
      have d1 : 36 ≤ n := by omega
      go_enter Try.func23, Try.ntmps23
      go_wp2
      (try simp only [Exit.inBlock, Exit.then])
      refine bodyPost_ret (results_four rfl _ _) rfl ?_
      exact ⟨Hfin.out, by simp⟩
set_option maxHeartbeats 1000000 in
theorem angle_ref (n : Int) (w : World) : Calls Try.prog 24 #[.int .i64 n] w fun e w' => e = .returned (angV n) ∧ Ext w w' := by
  by_cases hn : 0 ≤ n ∧ n < 36
  · obtain ⟨m, rfl⟩ : ∃ m : Nat, n = m := ⟨n.toNat, by omega⟩
    have hm : m < 36 := by omega
    obtain ⟨a1, a2⟩ := ang_nat hm
    have hwi : withinB (m : Int) 0 35 = true := withinB_true.2 (by omega)
    have hfin := ret_angle (n := (m : Int)) (p := (trn m).1) (q := (trn m).2.1) (r := (trn m).2.2) a1.symm a2.symm
    have Hfin := Lib.hid hfin
    have hat := fun (w' : World) (A : Option Addr) (h : TRow w' A turns) => TRow.at_ h (k := m) hm
    have htn : tAt turns m = trn m := rfl
    rw [htn] at hat
    have Hat := Lib.hid hat
    clear hfin a1 a2 hn hat htn
    generalize angV (m : Int) = V at *
    generalize trn m = t at *
    obtain ⟨p, q, r⟩ := t
    have b1 : (m : Int) < 36 := by omega
    go_enter Try.func24, Try.ntmps24
    go_wp2_with (first
      | (go_at_call 58; refine (within_any _ _ _ _).mono ?_; rintro e w' ⟨rfl, rfl⟩)
      | (go_at_call 59; refine (turns_ref _).mono ?_; rintro e w1 ⟨A, c, rfl, hrow, h1⟩; obtain ⟨ad, rfl, c0, c1, c2⟩ := Hat.out w1 A hrow))
    go_quiet (fail)
    go_wp2
    (try simp only [Exit.inBlock, Exit.then])
    refine bodyPost_ret (results_four rfl _ _) rfl ?_
    exact ⟨Hfin.out, h1.trans (by simp)⟩
  · obtain ⟨a1, a2⟩ := ang_bad hn
    have hwi : withinB n 0 35 = false := withinB_false.2 (by omega)
    have hfin := ret_angle (n := n) a1.symm a2.symm
    have Hfin := Lib.hid hfin
    clear hfin a1 a2
    generalize angV n = V at *
    go_enter Try.func24, Try.ntmps24
    go_wp2_with (go_at_call 58; refine (within_any _ _ _ _).mono ?_; rintro e w' ⟨rfl, rfl⟩)
    (try simp only [Exit.inBlock, Exit.then])
    refine bodyPost_ret (results_four rfl _ _) rfl ?_
    exact ⟨Hfin.out, by simp⟩
end Go.Proofs.Yteilglljigjefaa
