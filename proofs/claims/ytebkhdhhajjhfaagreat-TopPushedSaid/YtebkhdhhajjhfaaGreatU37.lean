/- The law's first examples: alive06. -/
import Derived.Test.YtebkhdhhajjhfaaGreatU36
import Derived.Test.YtebkhdhhajjhfaaGreatU30
import Derived.Test.YtebkhdhhajjhfaaGreatU05
namespace Go.Proofs.YtebkhdhhajjhfaaGreat.Lt
open Go Go.RowKit
def alK6 : List Ki := [⟨[⟨0, 0, 0⟩], [], 1⟩]
def alM6 : List Br := [⟨0, ⟨0, 0, 0⟩, 0, 0⟩, ⟨0, ⟨1, 0, 0⟩, 0, 0⟩]
theorem al_cel (x : Int) : celB alK6 ⟨0, ⟨x, 0, 0⟩, 0, 0⟩ = [⟨x, 0, 0⟩] := by
  have h : placed (kiA alK6 0).cs 0 ⟨x, 0, 0⟩ = [⟨x, 0, 0⟩] := by
    show [plusC (turnC ⟨0, 0, 0⟩ 0) ⟨x, 0, 0⟩] = _
    have : turnC ⟨0, 0, 0⟩ 0 = ⟨0, 0, 0⟩ := by decide
    rw [this]
    simp [plusC]
  show sortC (placed (kiA alK6 0).cs 0 ⟨x, 0, 0⟩) = _
  rw [h]
  exact List.perm_singleton.1 (sortC_perm _)
theorem al_map : alM6.map (celB alK6) = [[⟨0, 0, 0⟩], [⟨1, 0, 0⟩]] := by
  show [celB alK6 ⟨0, ⟨0, 0, 0⟩, 0, 0⟩, celB alK6 ⟨0, ⟨1, 0, 0⟩, 0, 0⟩] = _
  rw [al_cel, al_cel]
theorem al_kind : KiOk (kiA alK6 0) := by
  refine ⟨by decide, by decide, by decide, by decide, by decide, fun i hi => ?_, fun i hi => ?_, fun i hi => ?_, fun i hi => ?_⟩
  · obtain rfl : i = 0 := by have : i < 1 := hi; omega
    decide
  · have : i + 1 < 1 := hi
    omega
  · have : i < 0 := hi
    omega
  · have : i + 1 < 0 := hi
    omega
theorem al_bricks : bricksP alK6.length alM6 := fun i hi => by
  have : i < 2 := hi
  rcases (by omega : i = 0 ∨ i = 1) with rfl | rfl
  · exact ⟨by decide, by decide, by decide, by decide, by decide, by decide, by decide⟩
  · exact ⟨by decide, by decide, by decide, by decide, by decide, by decide, by decide⟩
theorem al_model : modelP alK6 alM6 := by
  refine ⟨⟨⟨by decide, fun i hi => ?_⟩, by decide, al_bricks⟩, ?_⟩
  · have : i < 1 := hi
    obtain rfl : i = 0 := by omega
    exact al_kind
  · rintro ⟨i, j, hij, hj, c, h1, h2⟩
    have hj : j < 2 := hj
    obtain rfl : i = 0 := by omega
    obtain rfl : j = 1 := by omega
    have h1 : c ∈ celB alK6 ⟨0, ⟨0, 0, 0⟩, 0, 0⟩ := mem_celB.2 h1
    have h2 : c ∈ celB alK6 ⟨0, ⟨1, 0, 0⟩, 0, 0⟩ := mem_celB.2 h2
    rw [al_cel, List.mem_singleton] at h1 h2
    rw [h1] at h2
    cases h2
theorem al_good : goodW alK6 alM6 0 [] [0] ((1 : Nat) : Int) := by
  refine ⟨⟨al_model, ⟨by omega, by omega⟩, fun j hj => absurd hj (by simp), fun i hi => ?_⟩, fun j hj => ?_, ⟨by omega, by show ((1 : Nat) : Int) < ((2 : Nat) : Int); omega⟩, ?_⟩
  · rw [al_map]
    have : i < 2 := hi
    rcases (by omega : i = 0 ∨ i = 1) with rfl | rfl <;> decide
  · have : j < 1 := hj
    obtain rfl : j = 0 := by omega
    exact ⟨⟨by decide, by decide⟩, fun h => absurd h (by omega)⟩
  · rintro ⟨j, hj, h⟩
    have : j < 1 := hj
    obtain rfl : j = 0 := by omega
    exact absurd h (by decide)
theorem al_free : freeT (alM6.map (celB alK6)) alM6.length 0 [0] 1 1 := by
  rw [al_map]
  intro t ht n h1 h2
  have ht : t < 1 := ht
  obtain rfl : t = 0 := by omega
  have e : farC (ceA (klA [[(⟨0, 0, 0⟩ : Ce)], [⟨1, 0, 0⟩]] 1) 0) 1 n = ⟨1 + n, 0, 0⟩ := by
    have e1 : ceA (klA [[(⟨0, 0, 0⟩ : Ce)], [⟨1, 0, 0⟩]] 1) 0 = ⟨1, 0, 0⟩ := by decide
    have e2 : backC 1 = ⟨1, 0, 0⟩ := by decide
    rw [e1]
    unfold farC
    rw [e2]
    simp
  rw [e]
  refine ⟨by simp, fun i hi hc hin => ?_⟩
  have hi : i < 2 := hi
  rcases (by omega : i = 0 ∨ i = 1) with rfl | rfl
  · have hc : (⟨1 + n, 0, 0⟩ : Ce) ∈ [(⟨0, 0, 0⟩ : Ce)] := hc
    rw [List.mem_singleton, Ce.mk.injEq] at hc
    omega
  · obtain ⟨j, hj, h⟩ := hin
    have : j < 1 := hj
    obtain rfl : j = 0 := by omega
    exact absurd h (by decide)
theorem al_shut : ¬ freeT (alM6.map (celB alK6)) alM6.length 0 [0] 1 0 := by
  rw [al_map]
  intro h
  have h2 := (h 0 (by decide) 1 (by omega) (by omega)).2 0 (by decide) (by decide)
  exact h2 ⟨0, by decide, by decide⟩
theorem al_bare : ∀ i, i < alM6.length → (knoB alK6 (brA alM6 i)).length = 0 := fun i hi => by
  have : i < 2 := hi
  rw [knoB_len]
  rcases (by omega : i = 0 ∨ i = 1) with rfl | rfl <;> rfl
theorem al_kw : kindsW alK6 := fun i hi j hj => by
  have : i < 1 := hi
  obtain rfl : i = 0 := by omega
  exact absurd hj (by simp [alK6, kiA])
theorem al_bw : bricksW alM6 := fun i hi => by
  have : i < 2 := hi
  rcases (by omega : i = 0 ∨ i = 1) with rfl | rfl <;> exact ⟨by decide, by decide⟩
theorem al_push (A M H L : Addr) (w : World) (hA : KiRow w (some A) alK6) (hM : BrRow w (some M) alM6) (hH : Ints w (some H) [0]) (hL : Ints w (some L) [9]) : Calls Tryz.prog 12 #[.slice (some A) 1 1, .agg #[.slice (some M) 2 2], .agg #[.int .i64 0, .slice none 0 0], .slice (some H) 1 1, .int .i64 1, .int .i64 1, .agg #[.slice (some L) 1 1, .int .i64 0, .int .i64 5], .int .i64 9] w fun e w' => e = .returned (.int .i64 1) ∧ Ext w w' := by
  refine (push_any alK6 (some A) 1 alM6 (some M) 2 0 [] none 0 [0] (some H) 1 1 1 9 [9] (some L) 1 0 5 w hA al_kw hM al_bw (Ints.nil _ _) (by simp) (by omega) hH (by simp) hL (by decide) (by omega) (by omega) al_good).mono ?_
  rintro e w' ⟨x, rfl, hx, _, _, h⟩
  rw [h al_bare al_free]
  exact ⟨rfl, hx⟩
theorem al_push2 (A M H L : Addr) (w : World) (hA : KiRow w (some A) alK6) (hM : BrRow w (some M) alM6) (hH : Ints w (some H) [0]) (hL : Ints w (some L) [9]) : Calls Tryz.prog 12 #[.slice (some A) 1 1, .agg #[.slice (some M) 2 2], .agg #[.int .i64 0, .slice none 0 0], .slice (some H) 1 1, .int .i64 1, .int .i64 0, .agg #[.slice (some L) 1 1, .int .i64 0, .int .i64 5], .int .i64 9] w fun e w' => e = .returned (.int .i64 0) ∧ Ext w w' := by
  refine (push_any alK6 (some A) 1 alM6 (some M) 2 0 [] none 0 [0] (some H) 1 1 0 9 [9] (some L) 1 0 5 w hA al_kw hM al_bw (Ints.nil _ _) (by simp) (by omega) hH (by simp) hL (by decide) (by omega) (by omega) al_good).mono ?_
  rintro e w' ⟨x, rfl, hx, h0, h1, _⟩
  rcases h0 with rfl | rfl
  · exact ⟨rfl, hx⟩
  · exact absurd (h1 rfl) al_shut
theorem al_board (w : World) : Calls Tryz.prog 24 #[.int .i64 1, .int .i64 1, .int .i64 1, .bool false] w fun e w' => ∃ g cap, e = .returned (.agg #[.slice (some ⟨g, 0, none⟩) 1 cap, .slice none 0 0, .int .i64 1]) ∧ Ext w w' ∧ CeRow w' (some ⟨g, 0, none⟩) [⟨0, 0, 0⟩] := by
  refine (board_any 1 1 1 w (by omega) (by omega) (by omega) (by omega)).mono ?_
  rintro e w' ⟨g, cap, rfl, hO⟩
  exact ⟨g, cap, rfl, hO.ext, hO.row⟩
theorem al_kirow {w : World} {g gk cap : Nat} (hc : CeRow w (some ⟨g, 0, none⟩) [⟨0, 0, 0⟩]) (hk : w.heap[gk]? = some (.cells #[.slice (some ⟨g, 0, none⟩) 1 cap, .slice none 0 0, .int .i64 1] 82)) : KiRow w (some ⟨gk, 0, none⟩) alK6 := fun k hk2 => by
  have : k < 1 := hk2
  obtain rfl : k = 0 := by omega
  have hW : Whole w gk #[.slice (some ⟨g, 0, none⟩) 1 cap, .slice none 0 0, .int .i64 1] 82 := ⟨hk⟩
  simp only [Nat.zero_mul]
  refine ⟨⟨gk, 0, none⟩, some ⟨g, 0, none⟩, cap, none, 0, rfl, ?_, ?_, ?_, hc, KnRow.nil _ _⟩
  · rw [add_zero_]
    exact fun w' he => he.cell (hW.cell 0 rfl)
  · rw [add_zero_]
    exact fun w' he => he.cell (hW.cell 1 rfl)
  · rw [add_zero_]
    exact fun w' he => he.cell (hW.cell 2 rfl)
set_option maxRecDepth 100000 in
set_option maxHeartbeats 1000000 in
theorem alive6_any (w : World) : Calls Tryz.prog 7 #[] w fun e w' => e = .returned (.bool true) ∧ Ext w w' := by
  go_enter Tryz.func7, Tryz.ntmps7
  go_wp2_with (first
    | (go_at_call 24; refine (al_board w).mono ?_; rintro e w1 ⟨g, cap, rfl, hx1, hr1⟩; have H1 := Lib.hid hx1; have HR1 := Lib.hid hr1; clear hx1 hr1)
    | (go_at_call 12; generalize hGG : Calls _ _ _ _ _ = GG))
  obtain ⟨W, hW⟩ : ∃ W, W = (((((w1.alloc (.cells #[.slice (some ⟨g, 0, none⟩) 1 cap, .slice none 0 0, .int .i64 1] 82)).alloc (.cells #[.int .i64 0, .int .i64 0, .int .i64 0, .int .i64 0, .int .u8 0, .int .u8 0, .int .i64 0, .int .i64 1, .int .i64 0, .int .i64 0, .int .u8 0, .int .u8 0] 85)).alloc (.cells #[.slice (some ⟨w1.heap.size + 1, 0, none⟩) 2 2] 25)).alloc (.cells #[.int .i64 0] 3)).alloc (.cells #[.int .i64 9] 3)) := ⟨_, rfl⟩
  have hx : Ext w1 W := by rw [hW]; exact ((((((Ext.refl _).alloc _).alloc _).alloc _).alloc _).alloc _)
  have hA : KiRow W (some ⟨w1.heap.size, 0, none⟩) alK6 := by
    rw [hW]
    exact (al_kirow (HR1.out.ext ((Ext.refl _).alloc _)) (heap_alloc_new _ _)).ext (((((Ext.refl _).alloc _).alloc _).alloc _).alloc _)
  have hM : BrRow W (some ⟨w1.heap.size + 1, 0, none⟩) alM6 := by
    have h := Gr.row_alloc (w1.alloc (.cells #[.slice (some ⟨g, 0, none⟩) 1 cap, .slice none 0 0, .int .i64 1] 82)) #[.int .i64 0, .int .i64 0, .int .i64 0, .int .i64 0, .int .u8 0, .int .u8 0, .int .i64 0, .int .i64 1, .int .i64 0, .int .i64 0, .int .u8 0, .int .u8 0] 85
    rw [show (w1.alloc (.cells #[.slice (some ⟨g, 0, none⟩) 1 cap, .slice none 0 0, .int .i64 1] 82)).heap.size = w1.heap.size + 1 by simp] at h
    rw [hW]
    exact Row.ext h ((((Ext.refl _).alloc _).alloc _).alloc _)
  have hB : Blk W (w1.heap.size + 1 + 1) [.slice (some ⟨w1.heap.size + 1, 0, none⟩) 2 2] := by
    rw [hW]
    exact (Blk.new' (W := ((w1.alloc (.cells #[.slice (some ⟨g, 0, none⟩) 1 cap, .slice none 0 0, .int .i64 1] 82)).alloc (.cells #[.int .i64 0, .int .i64 0, .int .i64 0, .int .i64 0, .int .u8 0, .int .u8 0, .int .i64 0, .int .i64 1, .int .i64 0, .int .i64 0, .int .u8 0, .int .u8 0] 85))) (cs := #[.slice (some ⟨w1.heap.size + 1, 0, none⟩) 2 2]) (n := w1.heap.size + 1 + 1) (by simp)).ext (((Ext.refl _).alloc _).alloc _)
  have hH : Ints W (some ⟨w1.heap.size + 1 + 1 + 1, 0, none⟩) [0] := by
    have h := Gr.row_alloc (((w1.alloc (.cells #[.slice (some ⟨g, 0, none⟩) 1 cap, .slice none 0 0, .int .i64 1] 82)).alloc (.cells #[.int .i64 0, .int .i64 0, .int .i64 0, .int .i64 0, .int .u8 0, .int .u8 0, .int .i64 0, .int .i64 1, .int .i64 0, .int .i64 0, .int .u8 0, .int .u8 0] 85)).alloc (.cells #[.slice (some ⟨w1.heap.size + 1, 0, none⟩) 2 2] 25)) #[.int .i64 0] 3
    rw [show (((w1.alloc (.cells #[.slice (some ⟨g, 0, none⟩) 1 cap, .slice none 0 0, .int .i64 1] 82)).alloc (.cells #[.int .i64 0, .int .i64 0, .int .i64 0, .int .i64 0, .int .u8 0, .int .u8 0, .int .i64 0, .int .i64 1, .int .i64 0, .int .i64 0, .int .u8 0, .int .u8 0] 85)).alloc (.cells #[.slice (some ⟨w1.heap.size + 1, 0, none⟩) 2 2] 25)).heap.size = w1.heap.size + 1 + 1 + 1 by simp] at h
    rw [hW]
    exact Row.ext h ((Ext.refl _).alloc _)
  have hL : Ints W (some ⟨w1.heap.size + 1 + 1 + 1 + 1, 0, none⟩) [9] := by
    have h := Gr.row_alloc ((((w1.alloc (.cells #[.slice (some ⟨g, 0, none⟩) 1 cap, .slice none 0 0, .int .i64 1] 82)).alloc (.cells #[.int .i64 0, .int .i64 0, .int .i64 0, .int .i64 0, .int .u8 0, .int .u8 0, .int .i64 0, .int .i64 1, .int .i64 0, .int .i64 0, .int .u8 0, .int .u8 0] 85)).alloc (.cells #[.slice (some ⟨w1.heap.size + 1, 0, none⟩) 2 2] 25)).alloc (.cells #[.int .i64 0] 3)) #[.int .i64 9] 3
    rw [show ((((w1.alloc (.cells #[.slice (some ⟨g, 0, none⟩) 1 cap, .slice none 0 0, .int .i64 1] 82)).alloc (.cells #[.int .i64 0, .int .i64 0, .int .i64 0, .int .i64 0, .int .u8 0, .int .u8 0, .int .i64 0, .int .i64 1, .int .i64 0, .int .i64 0, .int .u8 0, .int .u8 0] 85)).alloc (.cells #[.slice (some ⟨w1.heap.size + 1, 0, none⟩) 2 2] 25)).alloc (.cells #[.int .i64 0] 3)).heap.size = w1.heap.size + 1 + 1 + 1 + 1 by simp] at h
    rw [hW]
    exact h
  have Hp := Lib.hid (al_push _ _ _ _ W hA hM hH hL)
  have HA := Lib.hid hA
  have HM := Lib.hid hM
  have HB := Lib.hid hB
  have HW := Lib.hid (H1.out.trans hx)
  rw [← hGG, ← hW]
  clear hx hA hM hB hH hL hW hGG H1 HR1
  refine (Hp.out).mono ?_
  rintro e w2 ⟨rfl, hx2⟩
  have m0 := fun w' he => (HB.out.at_ 0 rfl) w' (hx2.trans he)
  have H2 := Lib.hid (HW.out.trans hx2)
  have HA2 := Lib.hid (HA.out.ext hx2)
  have HM2 := Lib.hid (HM.out.ext hx2)
  clear hx2 HA HM HB HW Hp
  dsimp only
  go_wp2_with (go_at_call 12; generalize hGG : Calls _ _ _ _ _ = GG)
  obtain ⟨W, hW⟩ : ∃ W, W = ((w2.alloc (.cells #[.int .i64 0] 3)).alloc (.cells #[.int .i64 9] 3)) := ⟨_, rfl⟩
  have hx : Ext w2 W := by rw [hW]; exact (((Ext.refl _).alloc _).alloc _)
  have hH : Ints W (some ⟨w2.heap.size, 0, none⟩) [0] := by
    rw [hW]
    exact Row.ext (Gr.row_alloc w2 #[.int .i64 0] 3) ((Ext.refl _).alloc _)
  have hL : Ints W (some ⟨w2.heap.size + 1, 0, none⟩) [9] := by
    have h := Gr.row_alloc (w2.alloc (.cells #[.int .i64 0] 3)) #[.int .i64 9] 3
    rw [show (w2.alloc (.cells #[.int .i64 0] 3)).heap.size = w2.heap.size + 1 by simp] at h
    rw [hW]
    exact h
  have Hp := Lib.hid (al_push2 _ _ _ _ W (HA2.out.ext hx) (HM2.out.ext hx) hH hL)
  have HW := Lib.hid (H2.out.trans hx)
  rw [← hGG, ← hW]
  clear hx hH hL hW hGG H2 HA2 HM2 m0
  refine (Hp.out).mono ?_
  rintro e w3 ⟨rfl, hx3⟩
  have H3 := Lib.hid (HW.out.trans hx3)
  clear hx3 HW Hp
  dsimp only
  go_wp2
  go_ret
  exact ⟨rfl, H3.out⟩
end Go.Proofs.YtebkhdhhajjhfaaGreat.Lt
