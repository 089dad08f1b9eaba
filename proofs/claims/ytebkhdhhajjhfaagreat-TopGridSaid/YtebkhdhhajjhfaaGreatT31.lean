/- Turns of cells: the six ways, and all 24. -/
import Derived.Test.YtebkhdhhajjhfaaGreatT30
import Derived.Test.YtebkhdhhajjhfaaGreatT20
namespace Go.Proofs.YtebkhdhhajjhfaaGreat.Lt
open Go.RowKit
set_option maxHeartbeats 1000000 in
theorem turners_any (w : World) : Calls Tryz.prog 91 #[] w fun e w' => ∃ g, e = .returned (.agg #[.func (.func 129) #[] #[], .func (.func 128) #[] #[], .func (.func 130) #[] #[.pointer (some ⟨g, 0, none⟩)], .func (.func 131) #[] #[.pointer (some ⟨g, 0, none⟩)], .func (.func 132) #[] #[], .func (.func 133) #[] #[]]) ∧
    (∀ w2, Ext w' w2 → w2.cell? ⟨g, 0, none⟩ = some (.func (.func 128) #[] #[])) ∧ Ext w w' := by
  have hsf : ∀ (a : Addr) (f : Fn) (x y : Array Value) (w : World), (store a (.func f x y)).run Tryz.prog w = stored Tryz.prog w a (.func f x y) .plain := fun a f x y w => run_store Tryz.prog w a _ .plain rfl
  have hk : ∀ W : World, W.heap.size = w.heap.size + 1 → Blk (W.alloc (.cells #[.func (.func 128) #[] #[]] 191)) (w.heap.size + 1) [.func (.func 128) #[] #[]] := fun W h => Blk.new' h
  have Hk := Lib.hid hk
  clear hk
  go_enter Tryz.func91, Tryz.ntmps91
  go_wp2
  have hb := Hk.out (w.alloc (.cells #[.func (.func 129) #[] #[], .func (.func 128) #[] #[], .func (.func 130) #[] #[.pointer (some ⟨w.heap.size + 1, 0, none⟩)], .func (.func 131) #[] #[.pointer (some ⟨w.heap.size + 1, 0, none⟩)], .func (.func 132) #[] #[], .func (.func 133) #[] #[]] 194)) (by simp)
  refine bodyPost_ret (v := .agg #[.func (.func 129) #[] #[], .func (.func 128) #[] #[], .func (.func 130) #[] #[.pointer (some ⟨w.heap.size + 1, 0, none⟩)], .func (.func 131) #[] #[.pointer (some ⟨w.heap.size + 1, 0, none⟩)], .func (.func 132) #[] #[], .func (.func 133) #[] #[]]) (by simp [results, Tryz.results91, go_sem]) rfl ⟨w.heap.size + 1, rfl, hb.at_ 0 rfl, by simp (maxDischargeDepth := 8)⟩
set_option maxHeartbeats 1000000 in
theorem rot2_any (c : Ce) (g : Nat) (w : World) (hc : nearP c (-1000000) 1000000) (hg : ∀ w2, Ext w w2 → w2.cell? ⟨g, 0, none⟩ = some (.func (.func 128) #[] #[])) : Calls Tryz.prog 130 #[c.val, .pointer (some ⟨g, 0, none⟩)] w fun e w' => e = .returned (rotX (rotX c)).val ∧ Ext w w' := by
  have h1 := fun w' => rotx_any c w' hc
  have h2 := fun w' => rotx_any (rotX c) w' (rotX_near hc)
  have H1 := Lib.hid h1
  have H2 := Lib.hid h2
  clear h1 h2 hc
  generalize rotX (rotX c) = c2 at *
  generalize rotX c = c1 at *
  obtain ⟨x, y, z⟩ := c
  obtain ⟨x1, y1, z1⟩ := c1
  obtain ⟨x2, y2, z2⟩ := c2
  have hW : Ext w ((w.alloc (.cells #[.int .i64 x, .int .i64 y, .int .i64 z] 60)).alloc (.cells #[.int .i64 0, .int .i64 0, .int .i64 0] 60)) := by simp
  have kb : Blk ((w.alloc (.cells #[.int .i64 x, .int .i64 y, .int .i64 z] 60)).alloc (.cells #[.int .i64 0, .int .i64 0, .int .i64 0] 60)) w.heap.size [.int .i64 x, .int .i64 y, .int .i64 z] := (Blk.new _ _).ext ((Ext.refl _).alloc _)
  have kz : Whole ((w.alloc (.cells #[.int .i64 x, .int .i64 y, .int .i64 z] 60)).alloc (.cells #[.int .i64 0, .int .i64 0, .int .i64 0] 60)) (w.heap.size + 1) #[.int .i64 0, .int .i64 0, .int .i64 0] 60 := Whole.new (by simp)
  have b0 := kb.at_ 0 rfl
  have b1 := kb.at_ 1 rfl
  have b2 := kb.at_ 2 rfl
  have g0 := fun w2 he => hg w2 (hW.trans he)
  have HW := Lib.hid hW
  have Kz := Lib.hid kz
  clear hg kb kz hW
  go_enter Tryz.func130, Tryz.ntmps130
  go_wp2
  generalize hWW : ((w.alloc (.cells #[.int .i64 x, .int .i64 y, .int .i64 z] 60)).alloc (.cells #[.int .i64 0, .int .i64 0, .int .i64 0] 60)) = W at *
  have HWW := Lib.hid hWW
  clear hWW
  refine Cg.wp_region_calm (p := Cg.extPre) (fr := (fun _ => false)) 5 (fun j _ v _ => (j = 3 → v = .agg #[.int .i64 x1, .int .i64 y1, .int .i64 z1]) ∧ (j = 4 → v = .agg #[.int .i64 x2, .int .i64 y2, .int .i64 z2])) (fun _ _ _ _ _ _ h => h) (by kernel_rfl) (by kernel_rfl) ?_
  simp only [List.take_succ_cons, List.take_zero, List.drop_succ_cons, List.drop_zero]
  refine Cg.calm_quiet Cg.calm_mono_final W (fun _ h => h) 3 (by kernel_rfl) ?_
  simp only [List.take_succ_cons, List.take_zero, List.drop_succ_cons, List.drop_zero]
  repeat (go_big_quiet_step (fail))
  refine wpQuiet_nil ?_
  refine Cg.calm_call Cg.calm_mono_final 128 #[.agg #[.int .i64 x, .int .i64 y, .int .i64 z]] rfl (fun w => ?_) (fun w he hF => ?_) ?_
  · go_simp
  · exact (H1.out w).mono fun e w'' ⟨he', hx⟩ => ⟨_, he', hx, ⟨fun _ => rfl, fun h => (by cases h)⟩, fun h => by cases h⟩
  rintro _ _ _ h _
  cases h.1 rfl
  simp only [Act.put, List.setIfInBounds_toArray, List.set_cons_succ, List.set_cons_zero]
  refine Cg.calm_call Cg.calm_mono_final 128 #[.agg #[.int .i64 x1, .int .i64 y1, .int .i64 z1]] rfl (fun w => ?_) (fun w he hF => ?_) ?_
  · go_simp
  · exact (H2.out w).mono fun e w'' ⟨he', hx⟩ => ⟨_, he', hx, ⟨fun h => (by cases h), fun _ => rfl⟩, fun h => by cases h⟩
  rintro _ _ _ h _
  cases h.2 rfl
  simp only [Act.put, List.setIfInBounds_toArray, List.set_cons_succ, List.set_cons_zero]
  refine Cg.calm_nil fun w3 he3 _ => ?_
  have he3 : Ext W w3 := he3
  have kz := Kz.out.ext he3
  have z0 := kz.cell 0 rfl
  have z1' := kz.cell 1 rfl
  have z2' := kz.cell 2 rfl
  have zf := kz.free
  have hx3 := HW.out.trans he3
  have Hx3 := Lib.hid hx3
  have Kz3 := Lib.hid kz
  clear kz hx3 b0 b1 b2 g0 he3
  go_wp2
  have kq := (((Kz3.out.setCell 0 (.int .i64 x2)).setCell 1 (.int .i64 y2)).setCell 2 (.int .i64 z2)).blk
  refine bodyPost_ret (results_ce rfl _ _ rfl kq) rfl ⟨rfl, ?_⟩
  exact ((Hx3.out.setCell (p := ⟨w.heap.size + 1, 0, none⟩) (by simp) _).setCell (p := ⟨w.heap.size + 1, 1, none⟩) (by simp) _).setCell (p := ⟨w.heap.size + 1, 2, none⟩) (by simp) _
set_option maxHeartbeats 1000000 in
theorem rot3_any (c : Ce) (g : Nat) (w : World) (hc : nearP c (-1000000) 1000000) (hg : ∀ w2, Ext w w2 → w2.cell? ⟨g, 0, none⟩ = some (.func (.func 128) #[] #[])) : Calls Tryz.prog 131 #[c.val, .pointer (some ⟨g, 0, none⟩)] w fun e w' => e = .returned (rotX (rotX (rotX c))).val ∧ Ext w w' := by
  have h1 := fun w' => rotx_any c w' hc
  have h2 := fun w' => rotx_any (rotX c) w' (rotX_near hc)
  have h3 := fun w' => rotx_any (rotX (rotX c)) w' (rotX_near (rotX_near hc))
  have H1 := Lib.hid h1
  have H2 := Lib.hid h2
  have H3 := Lib.hid h3
  clear h1 h2 h3 hc
  generalize rotX (rotX (rotX c)) = c3 at *
  generalize rotX (rotX c) = c2 at *
  generalize rotX c = c1 at *
  obtain ⟨x, y, z⟩ := c
  obtain ⟨x1, y1, z1⟩ := c1
  obtain ⟨x2, y2, z2⟩ := c2
  obtain ⟨x3, y3, z3⟩ := c3
  have hW : Ext w ((w.alloc (.cells #[.int .i64 x, .int .i64 y, .int .i64 z] 60)).alloc (.cells #[.int .i64 0, .int .i64 0, .int .i64 0] 60)) := by simp
  have kb : Blk ((w.alloc (.cells #[.int .i64 x, .int .i64 y, .int .i64 z] 60)).alloc (.cells #[.int .i64 0, .int .i64 0, .int .i64 0] 60)) w.heap.size [.int .i64 x, .int .i64 y, .int .i64 z] := (Blk.new _ _).ext ((Ext.refl _).alloc _)
  have kz : Whole ((w.alloc (.cells #[.int .i64 x, .int .i64 y, .int .i64 z] 60)).alloc (.cells #[.int .i64 0, .int .i64 0, .int .i64 0] 60)) (w.heap.size + 1) #[.int .i64 0, .int .i64 0, .int .i64 0] 60 := Whole.new (by simp)
  have b0 := kb.at_ 0 rfl
  have b1 := kb.at_ 1 rfl
  have b2 := kb.at_ 2 rfl
  have g0 := fun w2 he => hg w2 (hW.trans he)
  have HW := Lib.hid hW
  have Kz := Lib.hid kz
  clear hg kb kz hW
  go_enter Tryz.func131, Tryz.ntmps131
  go_wp2
  generalize hWW : ((w.alloc (.cells #[.int .i64 x, .int .i64 y, .int .i64 z] 60)).alloc (.cells #[.int .i64 0, .int .i64 0, .int .i64 0] 60)) = W at *
  have HWW := Lib.hid hWW
  clear hWW
  refine Cg.wp_region_calm (p := Cg.extPre) (fr := (fun _ => false)) 7 (fun j _ v _ => (j = 4 → v = .agg #[.int .i64 x1, .int .i64 y1, .int .i64 z1]) ∧ (j = 5 → v = .agg #[.int .i64 x2, .int .i64 y2, .int .i64 z2]) ∧ (j = 6 → v = .agg #[.int .i64 x3, .int .i64 y3, .int .i64 z3])) (fun _ _ _ _ _ _ h => h) (by kernel_rfl) (by kernel_rfl) ?_
  simp only [List.take_succ_cons, List.take_zero, List.drop_succ_cons, List.drop_zero]
  refine Cg.calm_quiet Cg.calm_mono_final W (fun _ h => h) 4 (by kernel_rfl) ?_
  simp only [List.take_succ_cons, List.take_zero, List.drop_succ_cons, List.drop_zero]
  repeat (go_big_quiet_step (fail))
  refine wpQuiet_nil ?_
  refine Cg.calm_call Cg.calm_mono_final 128 #[.agg #[.int .i64 x, .int .i64 y, .int .i64 z]] rfl (fun w => ?_) (fun w he hF => ?_) ?_
  · go_simp
  · exact (H1.out w).mono fun e w'' ⟨he', hx⟩ => ⟨_, he', hx, ⟨fun _ => rfl, fun h => (by cases h), fun h => (by cases h)⟩, fun h => by cases h⟩
  rintro _ _ _ h _
  cases h.1 rfl
  simp only [Act.put, List.setIfInBounds_toArray, List.set_cons_succ, List.set_cons_zero]
  refine Cg.calm_call Cg.calm_mono_final 128 #[.agg #[.int .i64 x1, .int .i64 y1, .int .i64 z1]] rfl (fun w => ?_) (fun w he hF => ?_) ?_
  · go_simp
  · exact (H2.out w).mono fun e w'' ⟨he', hx⟩ => ⟨_, he', hx, ⟨fun h => (by cases h), fun _ => rfl, fun h => (by cases h)⟩, fun h => by cases h⟩
  rintro _ _ _ h _
  cases h.2.1 rfl
  simp only [Act.put, List.setIfInBounds_toArray, List.set_cons_succ, List.set_cons_zero]
  refine Cg.calm_call Cg.calm_mono_final 128 #[.agg #[.int .i64 x2, .int .i64 y2, .int .i64 z2]] rfl (fun w => ?_) (fun w he hF => ?_) ?_
  · go_simp
  · exact (H3.out w).mono fun e w'' ⟨he', hx⟩ => ⟨_, he', hx, ⟨fun h => (by cases h), fun h => (by cases h), fun _ => rfl⟩, fun h => by cases h⟩
  rintro _ _ _ h _
  cases h.2.2 rfl
  simp only [Act.put, List.setIfInBounds_toArray, List.set_cons_succ, List.set_cons_zero]
  refine Cg.calm_nil fun w3 he3 _ => ?_
  have he3 : Ext W w3 := he3
  have kz := Kz.out.ext he3
  have z0 := kz.cell 0 rfl
  have z1' := kz.cell 1 rfl
  have z2' := kz.cell 2 rfl
  have zf := kz.free
  have hx3 := HW.out.trans he3
  have Hx3 := Lib.hid hx3
  have Kz3 := Lib.hid kz
  clear kz hx3 b0 b1 b2 g0 he3
  go_wp2
  have kq := (((Kz3.out.setCell 0 (.int .i64 x3)).setCell 1 (.int .i64 y3)).setCell 2 (.int .i64 z3)).blk
  refine bodyPost_ret (results_ce rfl _ _ rfl kq) rfl ⟨rfl, ?_⟩
  exact ((Hx3.out.setCell (p := ⟨w.heap.size + 1, 0, none⟩) (by simp) _).setCell (p := ⟨w.heap.size + 1, 1, none⟩) (by simp) _).setCell (p := ⟨w.heap.size + 1, 2, none⟩) (by simp) _
/-- The cell while it is turned about z. -/
def rotV (k : Nat) (c : Ce) : Array Value := #[.int .i64 (rotN k c).x, .int .i64 (rotN k c).y, .int .i64 (rotN k c).z]
set_option maxHeartbeats 4000000 in
set_option maxRecDepth 100000 in
theorem turn_any (c : Ce) (n : Nat) (hn : n < 24) (w : World) (hc : nearP c (-1000000) 1000000) : Calls Tryz.prog 59 #[c.val, .int .i64 n] w fun e w' => e = .returned (turnC c n).val ∧ Ext w w' := by
  have ht := fun w' => turners_any w'
  have hnr := fun k => rotN_near hc k
  have hsucc := fun k => (show rotN (k + 1) c = ⟨-(rotN k c).y, (rotN k c).x, (rotN k c).z⟩ from rfl)
  obtain ⟨r, hr⟩ : ∃ r : Nat, r = n % 4 := ⟨_, rfl⟩
  obtain ⟨m, hm⟩ : ∃ m : Nat, m = n / 4 := ⟨_, rfl⟩
  have hres : turnC c n = sixth m (rotN r c) := by rw [hm, hr]; rfl
  rw [hres]
  have hi1 : (n : Int).tmod 4 = (r : Int) := by rw [hr]; exact (Int.ofNat_tmod n 4).symm
  have hi2 : (n : Int) % 4 = (r : Int) := by omega
  have hi3 : (n : Int).tdiv 4 = (m : Int) := by rw [hm]; exact (Int.ofNat_tdiv n 4).symm
  have hi4 : (n : Int) / 4 = (m : Int) := by omega
  have hm6 : m < 6 := by omega
  have hr4 : r < 4 := by omega
  have hcl : c = rotN 0 c := rfl
  have Ht := Lib.hid ht
  have Hnr := Lib.hid hnr
  have Hsucc := Lib.hid hsucc
  have Hi := Lib.hid (And.intro hi1 (And.intro hi2 (And.intro hi3 hi4)))
  clear ht hnr hsucc hres hr hm hc hi3 hi4
  have hB0 : Whole ((w.alloc (.cells (rotV 0 c) 60)).alloc (.cells #[.int .i64 0, .int .i64 0, .int .i64 0] 60)) w.heap.size (rotV 0 c) 60 := Whole.ext (Whole.new rfl) ((Ext.refl _).alloc _)
  have hZ0 : Whole ((w.alloc (.cells (rotV 0 c) 60)).alloc (.cells #[.int .i64 0, .int .i64 0, .int .i64 0] 60)) (w.heap.size + 1) #[.int .i64 0, .int .i64 0, .int .i64 0] 60 := Whole.new (by simp)
  have hx0 : Ext w ((w.alloc (.cells (rotV 0 c) 60)).alloc (.cells #[.int .i64 0, .int .i64 0, .int .i64 0] 60)) := by simp
  change Whole ((w.alloc (.cells #[.int .i64 c.x, .int .i64 c.y, .int .i64 c.z] 60)).alloc _) _ _ _ at hB0
  change Whole ((w.alloc (.cells #[.int .i64 c.x, .int .i64 c.y, .int .i64 c.z] 60)).alloc _) _ _ _ at hZ0
  change Ext w ((w.alloc (.cells #[.int .i64 c.x, .int .i64 c.y, .int .i64 c.z] 60)).alloc _) at hx0
  clear hcl
  go_enter Tryz.func59, Tryz.ntmps59
  go_wp2
  generalize ((w.alloc (.cells #[.int .i64 c.x, .int .i64 c.y, .int .i64 c.z] 60)).alloc (.cells #[.int .i64 0, .int .i64 0, .int .i64 0] 60)) = W at *
  clear hi1 hi2
  go_loopw [7] (fun i wr => ∃ k : Nat, k ≤ r ∧ i = .int .i64 k ∧ Whole wr w.heap.size (rotV k c) 60 ∧ Whole wr (w.heap.size + 1) #[.int .i64 0, .int .i64 0, .int .i64 0] 60 ∧ Ext w wr) (fun i _ => r - (intOf i).toNat)
  case atStart => exact ⟨0, by omega, rfl, hB0, hZ0, hx0⟩
  case round =>
    clear hB0 hZ0 hx0
    obtain ⟨k, hk, rfl, hB, hZ, hex⟩ := hrel
    by_cases hlt : k < r
    · have hki : (k : Int) < (r : Int) := by omega
      have hs := Hsucc.out k
      obtain ⟨⟨p1, p2⟩, ⟨p3, p4⟩, p5, p6⟩ := Hnr.out k
      unfold rotV at hB
      have hV1 : rotV (k + 1) c = #[.int .i64 (-(rotN k c).y), .int .i64 (rotN k c).x, .int .i64 (rotN k c).z] := by unfold rotV; rw [hs]
      have HV1 := Lib.hid hV1
      clear hV1 hs
      generalize rotN k c = q at *
      obtain ⟨x, y, z⟩ := q
      simp only at p1 p2 p3 p4 p5 p6 hB HV1
      have hw1 : IntKind.i64.wrap (-y) = -y := by rw [IntKind.wrap_i64]; omega
      have hw2 : IntKind.i64.wrap (0 - y) = -y := by rw [IntKind.wrap_i64]; omega
      have c0 := hB.cell 0 rfl
      have c1 := hB.cell 1 rfl
      have c2 := hB.cell 2 rfl
      have cf := hB.free
      have HB := Lib.hid hB
      have HZ := Lib.hid hZ
      have Hex := Lib.hid hex
      clear hB hZ hex
      go_wp2
      have hne : w.heap.size + 1 ≠ w.heap.size := by omega
      have hB2 := ((HB.out.setCell 0 (.int .i64 (-y))).setCell 1 (.int .i64 x)).setCell 2 (.int .i64 z)
      have hB3 : Whole (((wr.setCell ⟨w.heap.size, 0, none⟩ (.int .i64 (-y))).setCell ⟨w.heap.size, 1, none⟩ (.int .i64 x)).setCell ⟨w.heap.size, 2, none⟩ (.int .i64 z)) w.heap.size (rotV (k + 1) c) 60 := by
        rw [HV1.out]
        exact hB2
      have hZ2 := ((HZ.out.farCell hne 0 (.int .i64 (-y))).farCell hne 1 (.int .i64 x)).farCell hne 2 (.int .i64 z)
      have hx2 := ((Hex.out.setCell (p := ⟨w.heap.size, 0, none⟩) (Nat.le_refl _) (.int .i64 (-y))).setCell (p := ⟨w.heap.size, 1, none⟩) (Nat.le_refl _) (.int .i64 x)).setCell (p := ⟨w.heap.size, 2, none⟩) (Nat.le_refl _) (.int .i64 z)
      go_roundw
      case rel => exact ⟨k + 1, by omega, by go_num, hB3, hZ2, hx2⟩
      case measure => simp [intOf]; omega
    · obtain rfl : r = k := by omega
      have hq := Hnr.out r
      unfold rotV at hB
      clear Hsucc Hnr
      obtain ⟨q, hqe⟩ : ∃ q, q = rotN r c := ⟨_, rfl⟩
      rw [← hqe] at hq hB
      have HE := Lib.hid hqe
      clear hqe
      have hq4 := fun w' => rot4_any q w'
      have hq5 := fun w' => rot5_any q w' hq
      have hq0 := fun w' => rot0_any q w'
      have hq1 := fun w' => rotx_any q w' hq
      have hq2 := fun g w' h => rot2_any q g w' hq h
      have hq3 := fun g w' h => rot3_any q g w' hq h
      have Hq0 := Lib.hid hq0
      have Hq1 := Lib.hid hq1
      have Hq2 := Lib.hid hq2
      have Hq3 := Lib.hid hq3
      have Hq4 := Lib.hid hq4
      have Hq5 := Lib.hid hq5
      clear hq hq0 hq1 hq2 hq3 hq4 hq5
      have b0 := hB.blk.at_ 0 rfl
      have b1 := hB.blk.at_ 1 rfl
      have b2 := hB.blk.at_ 2 rfl
      have HZ := Lib.hid hZ
      have Hex := Lib.hid hex
      have hi3 := Hi.out.2.2.1
      have hi4 := Hi.out.2.2.2
      clear hB hZ hex Hi
      have hcase : m = 0 ∨ m = 1 ∨ m = 2 ∨ m = 3 ∨ m = 4 ∨ m = 5 := by omega
      rcases hcase with rfl | rfl | rfl | rfl | rfl | rfl
      · have hix : ∀ (g : Nat) (w : World), (Instr.index 194 (.agg #[.func (.func 129) #[] #[], .func (.func 128) #[] #[], .func (.func 130) #[] #[.pointer (some ⟨g, 0, none⟩)], .func (.func 131) #[] #[.pointer (some ⟨g, 0, none⟩)], .func (.func 132) #[] #[], .func (.func 133) #[] #[]]) (.int .i64 0)).run Tryz.prog w = .ok (.agg #[.func (.func 129) #[] #[]]) w := fun _ _ => by kernel_rfl
        have hfi : ∀ (g : Nat) (w : World), (Instr.field 193 (.agg #[.func (.func 129) #[] #[]]) 0).run Tryz.prog w = .ok (.func (.func 129) #[] #[]) w := fun _ _ => by kernel_rfl
        obtain ⟨o, ho⟩ : ∃ o, o = sixth 0 q := ⟨_, rfl⟩
        have hcall : ∀ (g : Nat) (w' : World), (∀ w2, Ext w' w2 → w2.cell? ⟨g, 0, none⟩ = some (.func (.func 128) #[] #[])) → Calls Tryz.prog 129 #[q.val] w' fun e w'' => e = .returned o.val ∧ Ext w' w'' := fun g w' hg => by
          rw [ho]
          exact Hq0.out w'
        have Hcall := Lib.hid hcall
        have HO := Lib.hid ho
        clear hcall ho Hq0 Hq1 Hq2 Hq3 Hq4 Hq5
        obtain ⟨x, y, z⟩ := q
        obtain ⟨ox, oy, oz⟩ := o
        simp only at b0 b1 b2
        go_wp2
        refine Cg.wp_region_calm (p := Cg.extPre) (fr := (fun _ => false)) 7 (fun j _ v w => (j = 0 → ∃ g, v = .agg #[.func (.func 129) #[] #[], .func (.func 128) #[] #[], .func (.func 130) #[] #[.pointer (some ⟨g, 0, none⟩)], .func (.func 131) #[] #[.pointer (some ⟨g, 0, none⟩)], .func (.func 132) #[] #[], .func (.func 133) #[] #[]] ∧ ∀ w2, Ext w w2 → w2.cell? ⟨g, 0, none⟩ = some (.func (.func 128) #[] #[])) ∧ (j = 6 → v = .agg #[.int .i64 ox, .int .i64 oy, .int .i64 oz])) (fun _ _ _ _ _ hR h => ⟨fun e => (by obtain ⟨g, e1, e2⟩ := h.1 e; exact ⟨g, e1, fun w2 h2 => e2 w2 (Ext.trans hR h2)⟩), h.2⟩) (by kernel_rfl) (by kernel_rfl) ?_
        simp only [List.take_succ_cons, List.take_zero, List.drop_succ_cons, List.drop_zero]
        refine Cg.calm_call Cg.calm_mono_final 91 #[] rfl (fun w => ?_) (fun w he hF => ?_) ?_
        · go_simp
        · exact (Ht.out w).mono fun e w'' ⟨g, he', hg, hx⟩ => ⟨_, he', hx, ⟨fun _ => ⟨g, rfl, hg⟩, fun h => (by cases h)⟩, fun h => by cases h⟩
        rintro _ wg hwg h _
        obtain ⟨g, rfl, hgg⟩ := h.1 rfl
        clear h hgg
        have hix' := hix g
        have hfi' := hfi g
        clear hix hfi
        simp only [Act.put, List.setIfInBounds_toArray, List.set_cons_succ, List.set_cons_zero]
        refine Cg.calm_quiet Cg.calm_mono_final wr (fun _ h => h) 5 (by kernel_rfl) ?_
        simp only [List.take_succ_cons, List.take_zero, List.drop_succ_cons, List.drop_zero]
        repeat (go_big_quiet_step (fail))
        refine wpQuiet_nil ?_
        refine Cg.calm_call Cg.calm_mono_final 129 #[.agg #[.int .i64 x, .int .i64 y, .int .i64 z]] rfl (fun w => ?_) (fun w' he hF => ?_) ?_
        · go_simp
        · obtain ⟨g', e1, e2⟩ := ((hF 0 (by kernel_rfl)).2 rfl).1 (by trivial)
          have eg : g' = g := by simpa using e1.symm
          subst eg
          exact (Hcall.out g' w' e2).mono fun e w'' ⟨he', hx⟩ => ⟨_, he', hx, ⟨fun h => (by cases h), fun _ => rfl⟩, fun h => by cases h⟩
        rintro _ _ _ h _
        cases h.2 rfl
        simp only [Act.put, List.setIfInBounds_toArray, List.set_cons_succ, List.set_cons_zero]
        refine Cg.calm_nil fun w3 he3 _ => ?_
        have he3 : Ext wr w3 := he3
        have kz := HZ.out.ext he3
        have z0 := kz.cell 0 rfl
        have z1' := kz.cell 1 rfl
        have z2' := kz.cell 2 rfl
        have zf := kz.free
        have hx3 := Hex.out.trans he3
        have Hx3 := Lib.hid hx3
        have Kz3 := Lib.hid kz
        clear kz hx3 b0 b1 b2 he3 hix' hfi' hi3 hi4
        go_wp2
        have kq := (((Kz3.out.setCell 0 (.int .i64 ox)).setCell 1 (.int .i64 oy)).setCell 2 (.int .i64 oz)).blk
        refine bodyPost_ret (results_ce rfl _ _ rfl kq) rfl ⟨by rw [← HE.out, ← HO.out], ?_⟩
        exact ((Hx3.out.setCell (p := ⟨w.heap.size + 1, 0, none⟩) (by simp) _).setCell (p := ⟨w.heap.size + 1, 1, none⟩) (by simp) _).setCell (p := ⟨w.heap.size + 1, 2, none⟩) (by simp) _
      · have hix : ∀ (g : Nat) (w : World), (Instr.index 194 (.agg #[.func (.func 129) #[] #[], .func (.func 128) #[] #[], .func (.func 130) #[] #[.pointer (some ⟨g, 0, none⟩)], .func (.func 131) #[] #[.pointer (some ⟨g, 0, none⟩)], .func (.func 132) #[] #[], .func (.func 133) #[] #[]]) (.int .i64 1)).run Tryz.prog w = .ok (.agg #[.func (.func 128) #[] #[]]) w := fun _ _ => by kernel_rfl
        have hfi : ∀ (g : Nat) (w : World), (Instr.field 193 (.agg #[.func (.func 128) #[] #[]]) 0).run Tryz.prog w = .ok (.func (.func 128) #[] #[]) w := fun _ _ => by kernel_rfl
        obtain ⟨o, ho⟩ : ∃ o, o = sixth 1 q := ⟨_, rfl⟩
        have hcall : ∀ (g : Nat) (w' : World), (∀ w2, Ext w' w2 → w2.cell? ⟨g, 0, none⟩ = some (.func (.func 128) #[] #[])) → Calls Tryz.prog 128 #[q.val] w' fun e w'' => e = .returned o.val ∧ Ext w' w'' := fun g w' hg => by
          rw [ho]
          exact Hq1.out w'
        have Hcall := Lib.hid hcall
        have HO := Lib.hid ho
        clear hcall ho Hq0 Hq1 Hq2 Hq3 Hq4 Hq5
        obtain ⟨x, y, z⟩ := q
        obtain ⟨ox, oy, oz⟩ := o
        simp only at b0 b1 b2
        go_wp2
        refine Cg.wp_region_calm (p := Cg.extPre) (fr := (fun _ => false)) 7 (fun j _ v w => (j = 0 → ∃ g, v = .agg #[.func (.func 129) #[] #[], .func (.func 128) #[] #[], .func (.func 130) #[] #[.pointer (some ⟨g, 0, none⟩)], .func (.func 131) #[] #[.pointer (some ⟨g, 0, none⟩)], .func (.func 132) #[] #[], .func (.func 133) #[] #[]] ∧ ∀ w2, Ext w w2 → w2.cell? ⟨g, 0, none⟩ = some (.func (.func 128) #[] #[])) ∧ (j = 6 → v = .agg #[.int .i64 ox, .int .i64 oy, .int .i64 oz])) (fun _ _ _ _ _ hR h => ⟨fun e => (by obtain ⟨g, e1, e2⟩ := h.1 e; exact ⟨g, e1, fun w2 h2 => e2 w2 (Ext.trans hR h2)⟩), h.2⟩) (by kernel_rfl) (by kernel_rfl) ?_
        simp only [List.take_succ_cons, List.take_zero, List.drop_succ_cons, List.drop_zero]
        refine Cg.calm_call Cg.calm_mono_final 91 #[] rfl (fun w => ?_) (fun w he hF => ?_) ?_
        · go_simp
        · exact (Ht.out w).mono fun e w'' ⟨g, he', hg, hx⟩ => ⟨_, he', hx, ⟨fun _ => ⟨g, rfl, hg⟩, fun h => (by cases h)⟩, fun h => by cases h⟩
        rintro _ wg hwg h _
        obtain ⟨g, rfl, hgg⟩ := h.1 rfl
        clear h hgg
        have hix' := hix g
        have hfi' := hfi g
        clear hix hfi
        simp only [Act.put, List.setIfInBounds_toArray, List.set_cons_succ, List.set_cons_zero]
        refine Cg.calm_quiet Cg.calm_mono_final wr (fun _ h => h) 5 (by kernel_rfl) ?_
        simp only [List.take_succ_cons, List.take_zero, List.drop_succ_cons, List.drop_zero]
        repeat (go_big_quiet_step (fail))
        refine wpQuiet_nil ?_
        refine Cg.calm_call Cg.calm_mono_final 128 #[.agg #[.int .i64 x, .int .i64 y, .int .i64 z]] rfl (fun w => ?_) (fun w' he hF => ?_) ?_
        · go_simp
        · obtain ⟨g', e1, e2⟩ := ((hF 0 (by kernel_rfl)).2 rfl).1 (by trivial)
          have eg : g' = g := by simpa using e1.symm
          subst eg
          exact (Hcall.out g' w' e2).mono fun e w'' ⟨he', hx⟩ => ⟨_, he', hx, ⟨fun h => (by cases h), fun _ => rfl⟩, fun h => by cases h⟩
        rintro _ _ _ h _
        cases h.2 rfl
        simp only [Act.put, List.setIfInBounds_toArray, List.set_cons_succ, List.set_cons_zero]
        refine Cg.calm_nil fun w3 he3 _ => ?_
        have he3 : Ext wr w3 := he3
        have kz := HZ.out.ext he3
        have z0 := kz.cell 0 rfl
        have z1' := kz.cell 1 rfl
        have z2' := kz.cell 2 rfl
        have zf := kz.free
        have hx3 := Hex.out.trans he3
        have Hx3 := Lib.hid hx3
        have Kz3 := Lib.hid kz
        clear kz hx3 b0 b1 b2 he3 hix' hfi' hi3 hi4
        go_wp2
        have kq := (((Kz3.out.setCell 0 (.int .i64 ox)).setCell 1 (.int .i64 oy)).setCell 2 (.int .i64 oz)).blk
        refine bodyPost_ret (results_ce rfl _ _ rfl kq) rfl ⟨by rw [← HE.out, ← HO.out], ?_⟩
        exact ((Hx3.out.setCell (p := ⟨w.heap.size + 1, 0, none⟩) (by simp) _).setCell (p := ⟨w.heap.size + 1, 1, none⟩) (by simp) _).setCell (p := ⟨w.heap.size + 1, 2, none⟩) (by simp) _
      · have hix : ∀ (g : Nat) (w : World), (Instr.index 194 (.agg #[.func (.func 129) #[] #[], .func (.func 128) #[] #[], .func (.func 130) #[] #[.pointer (some ⟨g, 0, none⟩)], .func (.func 131) #[] #[.pointer (some ⟨g, 0, none⟩)], .func (.func 132) #[] #[], .func (.func 133) #[] #[]]) (.int .i64 2)).run Tryz.prog w = .ok (.agg #[.func (.func 130) #[] #[.pointer (some ⟨g, 0, none⟩)]]) w := fun _ _ => by kernel_rfl
        have hfi : ∀ (g : Nat) (w : World), (Instr.field 193 (.agg #[.func (.func 130) #[] #[.pointer (some ⟨g, 0, none⟩)]]) 0).run Tryz.prog w = .ok (.func (.func 130) #[] #[.pointer (some ⟨g, 0, none⟩)]) w := fun _ _ => by kernel_rfl
        obtain ⟨o, ho⟩ : ∃ o, o = sixth 2 q := ⟨_, rfl⟩
        have hcall : ∀ (g : Nat) (w' : World), (∀ w2, Ext w' w2 → w2.cell? ⟨g, 0, none⟩ = some (.func (.func 128) #[] #[])) → Calls Tryz.prog 130 #[q.val, .pointer (some ⟨g, 0, none⟩)] w' fun e w'' => e = .returned o.val ∧ Ext w' w'' := fun g w' hg => by
          rw [ho]
          exact Hq2.out g w' hg
        have Hcall := Lib.hid hcall
        have HO := Lib.hid ho
        clear hcall ho Hq0 Hq1 Hq2 Hq3 Hq4 Hq5
        obtain ⟨x, y, z⟩ := q
        obtain ⟨ox, oy, oz⟩ := o
        simp only at b0 b1 b2
        go_wp2
        refine Cg.wp_region_calm (p := Cg.extPre) (fr := (fun _ => false)) 7 (fun j _ v w => (j = 0 → ∃ g, v = .agg #[.func (.func 129) #[] #[], .func (.func 128) #[] #[], .func (.func 130) #[] #[.pointer (some ⟨g, 0, none⟩)], .func (.func 131) #[] #[.pointer (some ⟨g, 0, none⟩)], .func (.func 132) #[] #[], .func (.func 133) #[] #[]] ∧ ∀ w2, Ext w w2 → w2.cell? ⟨g, 0, none⟩ = some (.func (.func 128) #[] #[])) ∧ (j = 6 → v = .agg #[.int .i64 ox, .int .i64 oy, .int .i64 oz])) (fun _ _ _ _ _ hR h => ⟨fun e => (by obtain ⟨g, e1, e2⟩ := h.1 e; exact ⟨g, e1, fun w2 h2 => e2 w2 (Ext.trans hR h2)⟩), h.2⟩) (by kernel_rfl) (by kernel_rfl) ?_
        simp only [List.take_succ_cons, List.take_zero, List.drop_succ_cons, List.drop_zero]
        refine Cg.calm_call Cg.calm_mono_final 91 #[] rfl (fun w => ?_) (fun w he hF => ?_) ?_
        · go_simp
        · exact (Ht.out w).mono fun e w'' ⟨g, he', hg, hx⟩ => ⟨_, he', hx, ⟨fun _ => ⟨g, rfl, hg⟩, fun h => (by cases h)⟩, fun h => by cases h⟩
        rintro _ wg hwg h _
        obtain ⟨g, rfl, hgg⟩ := h.1 rfl
        clear h hgg
        have hix' := hix g
        have hfi' := hfi g
        clear hix hfi
        simp only [Act.put, List.setIfInBounds_toArray, List.set_cons_succ, List.set_cons_zero]
        refine Cg.calm_quiet Cg.calm_mono_final wr (fun _ h => h) 5 (by kernel_rfl) ?_
        simp only [List.take_succ_cons, List.take_zero, List.drop_succ_cons, List.drop_zero]
        repeat (go_big_quiet_step (fail))
        refine wpQuiet_nil ?_
        refine Cg.calm_call Cg.calm_mono_final 130 #[.agg #[.int .i64 x, .int .i64 y, .int .i64 z], .pointer (some ⟨g, 0, none⟩)] rfl (fun w => ?_) (fun w' he hF => ?_) ?_
        · go_simp
        · obtain ⟨g', e1, e2⟩ := ((hF 0 (by kernel_rfl)).2 rfl).1 (by trivial)
          have eg : g' = g := by simpa using e1.symm
          subst eg
          exact (Hcall.out g' w' e2).mono fun e w'' ⟨he', hx⟩ => ⟨_, he', hx, ⟨fun h => (by cases h), fun _ => rfl⟩, fun h => by cases h⟩
        rintro _ _ _ h _
        cases h.2 rfl
        simp only [Act.put, List.setIfInBounds_toArray, List.set_cons_succ, List.set_cons_zero]
        refine Cg.calm_nil fun w3 he3 _ => ?_
        have he3 : Ext wr w3 := he3
        have kz := HZ.out.ext he3
        have z0 := kz.cell 0 rfl
        have z1' := kz.cell 1 rfl
        have z2' := kz.cell 2 rfl
        have zf := kz.free
        have hx3 := Hex.out.trans he3
        have Hx3 := Lib.hid hx3
        have Kz3 := Lib.hid kz
        clear kz hx3 b0 b1 b2 he3 hix' hfi' hi3 hi4
        go_wp2
        have kq := (((Kz3.out.setCell 0 (.int .i64 ox)).setCell 1 (.int .i64 oy)).setCell 2 (.int .i64 oz)).blk
        refine bodyPost_ret (results_ce rfl _ _ rfl kq) rfl ⟨by rw [← HE.out, ← HO.out], ?_⟩
        exact ((Hx3.out.setCell (p := ⟨w.heap.size + 1, 0, none⟩) (by simp) _).setCell (p := ⟨w.heap.size + 1, 1, none⟩) (by simp) _).setCell (p := ⟨w.heap.size + 1, 2, none⟩) (by simp) _
      · have hix : ∀ (g : Nat) (w : World), (Instr.index 194 (.agg #[.func (.func 129) #[] #[], .func (.func 128) #[] #[], .func (.func 130) #[] #[.pointer (some ⟨g, 0, none⟩)], .func (.func 131) #[] #[.pointer (some ⟨g, 0, none⟩)], .func (.func 132) #[] #[], .func (.func 133) #[] #[]]) (.int .i64 3)).run Tryz.prog w = .ok (.agg #[.func (.func 131) #[] #[.pointer (some ⟨g, 0, none⟩)]]) w := fun _ _ => by kernel_rfl
        have hfi : ∀ (g : Nat) (w : World), (Instr.field 193 (.agg #[.func (.func 131) #[] #[.pointer (some ⟨g, 0, none⟩)]]) 0).run Tryz.prog w = .ok (.func (.func 131) #[] #[.pointer (some ⟨g, 0, none⟩)]) w := fun _ _ => by kernel_rfl
        obtain ⟨o, ho⟩ : ∃ o, o = sixth 3 q := ⟨_, rfl⟩
        have hcall : ∀ (g : Nat) (w' : World), (∀ w2, Ext w' w2 → w2.cell? ⟨g, 0, none⟩ = some (.func (.func 128) #[] #[])) → Calls Tryz.prog 131 #[q.val, .pointer (some ⟨g, 0, none⟩)] w' fun e w'' => e = .returned o.val ∧ Ext w' w'' := fun g w' hg => by
          rw [ho]
          exact Hq3.out g w' hg
        have Hcall := Lib.hid hcall
        have HO := Lib.hid ho
        clear hcall ho Hq0 Hq1 Hq2 Hq3 Hq4 Hq5
        obtain ⟨x, y, z⟩ := q
        obtain ⟨ox, oy, oz⟩ := o
        simp only at b0 b1 b2
        go_wp2
        refine Cg.wp_region_calm (p := Cg.extPre) (fr := (fun _ => false)) 7 (fun j _ v w => (j = 0 → ∃ g, v = .agg #[.func (.func 129) #[] #[], .func (.func 128) #[] #[], .func (.func 130) #[] #[.pointer (some ⟨g, 0, none⟩)], .func (.func 131) #[] #[.pointer (some ⟨g, 0, none⟩)], .func (.func 132) #[] #[], .func (.func 133) #[] #[]] ∧ ∀ w2, Ext w w2 → w2.cell? ⟨g, 0, none⟩ = some (.func (.func 128) #[] #[])) ∧ (j = 6 → v = .agg #[.int .i64 ox, .int .i64 oy, .int .i64 oz])) (fun _ _ _ _ _ hR h => ⟨fun e => (by obtain ⟨g, e1, e2⟩ := h.1 e; exact ⟨g, e1, fun w2 h2 => e2 w2 (Ext.trans hR h2)⟩), h.2⟩) (by kernel_rfl) (by kernel_rfl) ?_
        simp only [List.take_succ_cons, List.take_zero, List.drop_succ_cons, List.drop_zero]
        refine Cg.calm_call Cg.calm_mono_final 91 #[] rfl (fun w => ?_) (fun w he hF => ?_) ?_
        · go_simp
        · exact (Ht.out w).mono fun e w'' ⟨g, he', hg, hx⟩ => ⟨_, he', hx, ⟨fun _ => ⟨g, rfl, hg⟩, fun h => (by cases h)⟩, fun h => by cases h⟩
        rintro _ wg hwg h _
        obtain ⟨g, rfl, hgg⟩ := h.1 rfl
        clear h hgg
        have hix' := hix g
        have hfi' := hfi g
        clear hix hfi
        simp only [Act.put, List.setIfInBounds_toArray, List.set_cons_succ, List.set_cons_zero]
        refine Cg.calm_quiet Cg.calm_mono_final wr (fun _ h => h) 5 (by kernel_rfl) ?_
        simp only [List.take_succ_cons, List.take_zero, List.drop_succ_cons, List.drop_zero]
        repeat (go_big_quiet_step (fail))
        refine wpQuiet_nil ?_
        refine Cg.calm_call Cg.calm_mono_final 131 #[.agg #[.int .i64 x, .int .i64 y, .int .i64 z], .pointer (some ⟨g, 0, none⟩)] rfl (fun w => ?_) (fun w' he hF => ?_) ?_
        · go_simp
        · obtain ⟨g', e1, e2⟩ := ((hF 0 (by kernel_rfl)).2 rfl).1 (by trivial)
          have eg : g' = g := by simpa using e1.symm
          subst eg
          exact (Hcall.out g' w' e2).mono fun e w'' ⟨he', hx⟩ => ⟨_, he', hx, ⟨fun h => (by cases h), fun _ => rfl⟩, fun h => by cases h⟩
        rintro _ _ _ h _
        cases h.2 rfl
        simp only [Act.put, List.setIfInBounds_toArray, List.set_cons_succ, List.set_cons_zero]
        refine Cg.calm_nil fun w3 he3 _ => ?_
        have he3 : Ext wr w3 := he3
        have kz := HZ.out.ext he3
        have z0 := kz.cell 0 rfl
        have z1' := kz.cell 1 rfl
        have z2' := kz.cell 2 rfl
        have zf := kz.free
        have hx3 := Hex.out.trans he3
        have Hx3 := Lib.hid hx3
        have Kz3 := Lib.hid kz
        clear kz hx3 b0 b1 b2 he3 hix' hfi' hi3 hi4
        go_wp2
        have kq := (((Kz3.out.setCell 0 (.int .i64 ox)).setCell 1 (.int .i64 oy)).setCell 2 (.int .i64 oz)).blk
        refine bodyPost_ret (results_ce rfl _ _ rfl kq) rfl ⟨by rw [← HE.out, ← HO.out], ?_⟩
        exact ((Hx3.out.setCell (p := ⟨w.heap.size + 1, 0, none⟩) (by simp) _).setCell (p := ⟨w.heap.size + 1, 1, none⟩) (by simp) _).setCell (p := ⟨w.heap.size + 1, 2, none⟩) (by simp) _
      · have hix : ∀ (g : Nat) (w : World), (Instr.index 194 (.agg #[.func (.func 129) #[] #[], .func (.func 128) #[] #[], .func (.func 130) #[] #[.pointer (some ⟨g, 0, none⟩)], .func (.func 131) #[] #[.pointer (some ⟨g, 0, none⟩)], .func (.func 132) #[] #[], .func (.func 133) #[] #[]]) (.int .i64 4)).run Tryz.prog w = .ok (.agg #[.func (.func 132) #[] #[]]) w := fun _ _ => by kernel_rfl
        have hfi : ∀ (g : Nat) (w : World), (Instr.field 193 (.agg #[.func (.func 132) #[] #[]]) 0).run Tryz.prog w = .ok (.func (.func 132) #[] #[]) w := fun _ _ => by kernel_rfl
        obtain ⟨o, ho⟩ : ∃ o, o = sixth 4 q := ⟨_, rfl⟩
        have hcall : ∀ (g : Nat) (w' : World), (∀ w2, Ext w' w2 → w2.cell? ⟨g, 0, none⟩ = some (.func (.func 128) #[] #[])) → Calls Tryz.prog 132 #[q.val] w' fun e w'' => e = .returned o.val ∧ Ext w' w'' := fun g w' hg => by
          rw [ho]
          exact Hq4.out w'
        have Hcall := Lib.hid hcall
        have HO := Lib.hid ho
        clear hcall ho Hq0 Hq1 Hq2 Hq3 Hq4 Hq5
        obtain ⟨x, y, z⟩ := q
        obtain ⟨ox, oy, oz⟩ := o
        simp only at b0 b1 b2
        go_wp2
        refine Cg.wp_region_calm (p := Cg.extPre) (fr := (fun _ => false)) 7 (fun j _ v w => (j = 0 → ∃ g, v = .agg #[.func (.func 129) #[] #[], .func (.func 128) #[] #[], .func (.func 130) #[] #[.pointer (some ⟨g, 0, none⟩)], .func (.func 131) #[] #[.pointer (some ⟨g, 0, none⟩)], .func (.func 132) #[] #[], .func (.func 133) #[] #[]] ∧ ∀ w2, Ext w w2 → w2.cell? ⟨g, 0, none⟩ = some (.func (.func 128) #[] #[])) ∧ (j = 6 → v = .agg #[.int .i64 ox, .int .i64 oy, .int .i64 oz])) (fun _ _ _ _ _ hR h => ⟨fun e => (by obtain ⟨g, e1, e2⟩ := h.1 e; exact ⟨g, e1, fun w2 h2 => e2 w2 (Ext.trans hR h2)⟩), h.2⟩) (by kernel_rfl) (by kernel_rfl) ?_
        simp only [List.take_succ_cons, List.take_zero, List.drop_succ_cons, List.drop_zero]
        refine Cg.calm_call Cg.calm_mono_final 91 #[] rfl (fun w => ?_) (fun w he hF => ?_) ?_
        · go_simp
        · exact (Ht.out w).mono fun e w'' ⟨g, he', hg, hx⟩ => ⟨_, he', hx, ⟨fun _ => ⟨g, rfl, hg⟩, fun h => (by cases h)⟩, fun h => by cases h⟩
        rintro _ wg hwg h _
        obtain ⟨g, rfl, hgg⟩ := h.1 rfl
        clear h hgg
        have hix' := hix g
        have hfi' := hfi g
        clear hix hfi
        simp only [Act.put, List.setIfInBounds_toArray, List.set_cons_succ, List.set_cons_zero]
        refine Cg.calm_quiet Cg.calm_mono_final wr (fun _ h => h) 5 (by kernel_rfl) ?_
        simp only [List.take_succ_cons, List.take_zero, List.drop_succ_cons, List.drop_zero]
        repeat (go_big_quiet_step (fail))
        refine wpQuiet_nil ?_
        refine Cg.calm_call Cg.calm_mono_final 132 #[.agg #[.int .i64 x, .int .i64 y, .int .i64 z]] rfl (fun w => ?_) (fun w' he hF => ?_) ?_
        · go_simp
        · obtain ⟨g', e1, e2⟩ := ((hF 0 (by kernel_rfl)).2 rfl).1 (by trivial)
          have eg : g' = g := by simpa using e1.symm
          subst eg
          exact (Hcall.out g' w' e2).mono fun e w'' ⟨he', hx⟩ => ⟨_, he', hx, ⟨fun h => (by cases h), fun _ => rfl⟩, fun h => by cases h⟩
        rintro _ _ _ h _
        cases h.2 rfl
        simp only [Act.put, List.setIfInBounds_toArray, List.set_cons_succ, List.set_cons_zero]
        refine Cg.calm_nil fun w3 he3 _ => ?_
        have he3 : Ext wr w3 := he3
        have kz := HZ.out.ext he3
        have z0 := kz.cell 0 rfl
        have z1' := kz.cell 1 rfl
        have z2' := kz.cell 2 rfl
        have zf := kz.free
        have hx3 := Hex.out.trans he3
        have Hx3 := Lib.hid hx3
        have Kz3 := Lib.hid kz
        clear kz hx3 b0 b1 b2 he3 hix' hfi' hi3 hi4
        go_wp2
        have kq := (((Kz3.out.setCell 0 (.int .i64 ox)).setCell 1 (.int .i64 oy)).setCell 2 (.int .i64 oz)).blk
        refine bodyPost_ret (results_ce rfl _ _ rfl kq) rfl ⟨by rw [← HE.out, ← HO.out], ?_⟩
        exact ((Hx3.out.setCell (p := ⟨w.heap.size + 1, 0, none⟩) (by simp) _).setCell (p := ⟨w.heap.size + 1, 1, none⟩) (by simp) _).setCell (p := ⟨w.heap.size + 1, 2, none⟩) (by simp) _
      · have hix : ∀ (g : Nat) (w : World), (Instr.index 194 (.agg #[.func (.func 129) #[] #[], .func (.func 128) #[] #[], .func (.func 130) #[] #[.pointer (some ⟨g, 0, none⟩)], .func (.func 131) #[] #[.pointer (some ⟨g, 0, none⟩)], .func (.func 132) #[] #[], .func (.func 133) #[] #[]]) (.int .i64 5)).run Tryz.prog w = .ok (.agg #[.func (.func 133) #[] #[]]) w := fun _ _ => by kernel_rfl
        have hfi : ∀ (g : Nat) (w : World), (Instr.field 193 (.agg #[.func (.func 133) #[] #[]]) 0).run Tryz.prog w = .ok (.func (.func 133) #[] #[]) w := fun _ _ => by kernel_rfl
        obtain ⟨o, ho⟩ : ∃ o, o = sixth 5 q := ⟨_, rfl⟩
        have hcall : ∀ (g : Nat) (w' : World), (∀ w2, Ext w' w2 → w2.cell? ⟨g, 0, none⟩ = some (.func (.func 128) #[] #[])) → Calls Tryz.prog 133 #[q.val] w' fun e w'' => e = .returned o.val ∧ Ext w' w'' := fun g w' hg => by
          rw [ho]
          exact Hq5.out w'
        have Hcall := Lib.hid hcall
        have HO := Lib.hid ho
        clear hcall ho Hq0 Hq1 Hq2 Hq3 Hq4 Hq5
        obtain ⟨x, y, z⟩ := q
        obtain ⟨ox, oy, oz⟩ := o
        simp only at b0 b1 b2
        go_wp2
        refine Cg.wp_region_calm (p := Cg.extPre) (fr := (fun _ => false)) 7 (fun j _ v w => (j = 0 → ∃ g, v = .agg #[.func (.func 129) #[] #[], .func (.func 128) #[] #[], .func (.func 130) #[] #[.pointer (some ⟨g, 0, none⟩)], .func (.func 131) #[] #[.pointer (some ⟨g, 0, none⟩)], .func (.func 132) #[] #[], .func (.func 133) #[] #[]] ∧ ∀ w2, Ext w w2 → w2.cell? ⟨g, 0, none⟩ = some (.func (.func 128) #[] #[])) ∧ (j = 6 → v = .agg #[.int .i64 ox, .int .i64 oy, .int .i64 oz])) (fun _ _ _ _ _ hR h => ⟨fun e => (by obtain ⟨g, e1, e2⟩ := h.1 e; exact ⟨g, e1, fun w2 h2 => e2 w2 (Ext.trans hR h2)⟩), h.2⟩) (by kernel_rfl) (by kernel_rfl) ?_
        simp only [List.take_succ_cons, List.take_zero, List.drop_succ_cons, List.drop_zero]
        refine Cg.calm_call Cg.calm_mono_final 91 #[] rfl (fun w => ?_) (fun w he hF => ?_) ?_
        · go_simp
        · exact (Ht.out w).mono fun e w'' ⟨g, he', hg, hx⟩ => ⟨_, he', hx, ⟨fun _ => ⟨g, rfl, hg⟩, fun h => (by cases h)⟩, fun h => by cases h⟩
        rintro _ wg hwg h _
        obtain ⟨g, rfl, hgg⟩ := h.1 rfl
        clear h hgg
        have hix' := hix g
        have hfi' := hfi g
        clear hix hfi
        simp only [Act.put, List.setIfInBounds_toArray, List.set_cons_succ, List.set_cons_zero]
        refine Cg.calm_quiet Cg.calm_mono_final wr (fun _ h => h) 5 (by kernel_rfl) ?_
        simp only [List.take_succ_cons, List.take_zero, List.drop_succ_cons, List.drop_zero]
        repeat (go_big_quiet_step (fail))
        refine wpQuiet_nil ?_
        refine Cg.calm_call Cg.calm_mono_final 133 #[.agg #[.int .i64 x, .int .i64 y, .int .i64 z]] rfl (fun w => ?_) (fun w' he hF => ?_) ?_
        · go_simp
        · obtain ⟨g', e1, e2⟩ := ((hF 0 (by kernel_rfl)).2 rfl).1 (by trivial)
          have eg : g' = g := by simpa using e1.symm
          subst eg
          exact (Hcall.out g' w' e2).mono fun e w'' ⟨he', hx⟩ => ⟨_, he', hx, ⟨fun h => (by cases h), fun _ => rfl⟩, fun h => by cases h⟩
        rintro _ _ _ h _
        cases h.2 rfl
        simp only [Act.put, List.setIfInBounds_toArray, List.set_cons_succ, List.set_cons_zero]
        refine Cg.calm_nil fun w3 he3 _ => ?_
        have he3 : Ext wr w3 := he3
        have kz := HZ.out.ext he3
        have z0 := kz.cell 0 rfl
        have z1' := kz.cell 1 rfl
        have z2' := kz.cell 2 rfl
        have zf := kz.free
        have hx3 := Hex.out.trans he3
        have Hx3 := Lib.hid hx3
        have Kz3 := Lib.hid kz
        clear kz hx3 b0 b1 b2 he3 hix' hfi' hi3 hi4
        go_wp2
        have kq := (((Kz3.out.setCell 0 (.int .i64 ox)).setCell 1 (.int .i64 oy)).setCell 2 (.int .i64 oz)).blk
        refine bodyPost_ret (results_ce rfl _ _ rfl kq) rfl ⟨by rw [← HE.out, ← HO.out], ?_⟩
        exact ((Hx3.out.setCell (p := ⟨w.heap.size + 1, 0, none⟩) (by simp) _).setCell (p := ⟨w.heap.size + 1, 1, none⟩) (by simp) _).setCell (p := ⟨w.heap.size + 1, 2, none⟩) (by simp) _
end Go.Proofs.YtebkhdhhajjhfaaGreat.Lt
