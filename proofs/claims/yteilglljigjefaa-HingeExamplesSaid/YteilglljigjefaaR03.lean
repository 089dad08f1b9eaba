/- The angles: by the reference, without a search. -/
import Derived.Test.YteilglljigjefaaR02
namespace Go.Proofs.Yteilglljigjefaa
open Go.RowKit
set_option maxHeartbeats 1000000 in
theorem turn_0 (w : World) : Calls Try.prog 105 #[.int .i64 0] w fun e w' => e = .returned (tval (-1, 0, 1)) ∧ Ext w w' := by
  go_enter Try.func105, Try.ntmps105
  go_wp2
  exact bodyPost_ret (v := tval (-1, 0, 1)) (by simp [results, Try.results105, go_sem]) rfl ⟨rfl, by simp (maxDischargeDepth := 12)⟩
set_option maxHeartbeats 1000000 in
theorem turn_1 (w : World) : Calls Try.prog 105 #[.int .i64 1] w fun e w' => e = .returned (tval (0, -1, 1)) ∧ Ext w w' := by
  go_enter Try.func105, Try.ntmps105
  go_wp2
  exact bodyPost_ret (v := tval (0, -1, 1)) (by simp [results, Try.results105, go_sem]) rfl ⟨rfl, by simp (maxDischargeDepth := 12)⟩
set_option maxHeartbeats 1000000 in
theorem turn_2 (w : World) : Calls Try.prog 105 #[.int .i64 2] w fun e w' => e = .returned (tval (0, 1, 1)) ∧ Ext w w' := by
  go_enter Try.func105, Try.ntmps105
  go_wp2
  exact bodyPost_ret (v := tval (0, 1, 1)) (by simp [results, Try.results105, go_sem]) rfl ⟨rfl, by simp (maxDischargeDepth := 12)⟩
set_option maxHeartbeats 1000000 in
theorem turn_3 (w : World) : Calls Try.prog 105 #[.int .i64 3] w fun e w' => e = .returned (tval (1, 0, 1)) ∧ Ext w w' := by
  go_enter Try.func105, Try.ntmps105
  go_wp2
  exact bodyPost_ret (v := tval (1, 0, 1)) (by simp [results, Try.results105, go_sem]) rfl ⟨rfl, by simp (maxDischargeDepth := 12)⟩
set_option maxHeartbeats 1000000 in
theorem turn_4 (w : World) : Calls Try.prog 105 #[.int .i64 4] w fun e w' => e = .returned (tval (-4, -3, 5)) ∧ Ext w w' := by
  have ca := fun (w' : World) => abs_any (-4) w' (by omega)
  have Ca := Lib.hid ca
  clear ca
  go_enter Try.func105, Try.ntmps105
  go_wp2
  go_quiet ((go_at_call 107; exact Calls.quiet_of_same ((Ca.out _).mono fun _ _ h => ⟨h.1, h.2.symm⟩)))
  go_wp2
  refine bodyPost_ret (results_turn rfl _ _ rfl (Blk.set (j := 2) (Blk.set (j := 1) (Blk.set (j := 0) (Blk.ext (Blk.new' (cs := #[.int .i64 0, .int .i64 0, .int .i64 0]) (t := 92) rfl) (by simp (maxDischargeDepth := 12))) (by simp) _) (by simp) _) (by simp) _)) rfl ⟨rfl, ?_⟩
  exact (((Ext.setCell (by simp (maxDischargeDepth := 12)) (Nat.le_refl _) _).setCell (Nat.le_refl _) _).setCell (Nat.le_refl _) _)
set_option maxHeartbeats 1000000 in
theorem turn_5 (w : World) : Calls Try.prog 105 #[.int .i64 5] w fun e w' => e = .returned (tval (-4, 3, 5)) ∧ Ext w w' := by
  have ca := fun (w' : World) => abs_any (-4) w' (by omega)
  have Ca := Lib.hid ca
  clear ca
  go_enter Try.func105, Try.ntmps105
  go_wp2
  go_quiet ((go_at_call 107; exact Calls.quiet_of_same ((Ca.out _).mono fun _ _ h => ⟨h.1, h.2.symm⟩)))
  go_wp2
  refine bodyPost_ret (results_turn rfl _ _ rfl (Blk.set (j := 2) (Blk.set (j := 1) (Blk.set (j := 0) (Blk.ext (Blk.new' (cs := #[.int .i64 0, .int .i64 0, .int .i64 0]) (t := 92) rfl) (by simp (maxDischargeDepth := 12))) (by simp) _) (by simp) _) (by simp) _)) rfl ⟨rfl, ?_⟩
  exact (((Ext.setCell (by simp (maxDischargeDepth := 12)) (Nat.le_refl _) _).setCell (Nat.le_refl _) _).setCell (Nat.le_refl _) _)
set_option maxHeartbeats 1000000 in
theorem turn_6 (w : World) : Calls Try.prog 105 #[.int .i64 6] w fun e w' => e = .returned (tval (-3, -4, 5)) ∧ Ext w w' := by
  have ca := fun (w' : World) => abs_any (-3) w' (by omega)
  have Ca := Lib.hid ca
  clear ca
  go_enter Try.func105, Try.ntmps105
  go_wp2
  go_quiet ((go_at_call 107; exact Calls.quiet_of_same ((Ca.out _).mono fun _ _ h => ⟨h.1, h.2.symm⟩)))
  go_wp2
  refine bodyPost_ret (results_turn rfl _ _ rfl (Blk.set (j := 2) (Blk.set (j := 1) (Blk.set (j := 0) (Blk.ext (Blk.new' (cs := #[.int .i64 0, .int .i64 0, .int .i64 0]) (t := 92) rfl) (by simp (maxDischargeDepth := 12))) (by simp) _) (by simp) _) (by simp) _)) rfl ⟨rfl, ?_⟩
  exact (((Ext.setCell (by simp (maxDischargeDepth := 12)) (Nat.le_refl _) _).setCell (Nat.le_refl _) _).setCell (Nat.le_refl _) _)
set_option maxHeartbeats 1000000 in
theorem turn_7 (w : World) : Calls Try.prog 105 #[.int .i64 7] w fun e w' => e = .returned (tval (-3, 4, 5)) ∧ Ext w w' := by
  have ca := fun (w' : World) => abs_any (-3) w' (by omega)
  have Ca := Lib.hid ca
  clear ca
  go_enter Try.func105, Try.ntmps105
  go_wp2
  go_quiet ((go_at_call 107; exact Calls.quiet_of_same ((Ca.out _).mono fun _ _ h => ⟨h.1, h.2.symm⟩)))
  go_wp2
  refine bodyPost_ret (results_turn rfl _ _ rfl (Blk.set (j := 2) (Blk.set (j := 1) (Blk.set (j := 0) (Blk.ext (Blk.new' (cs := #[.int .i64 0, .int .i64 0, .int .i64 0]) (t := 92) rfl) (by simp (maxDischargeDepth := 12))) (by simp) _) (by simp) _) (by simp) _)) rfl ⟨rfl, ?_⟩
  exact (((Ext.setCell (by simp (maxDischargeDepth := 12)) (Nat.le_refl _) _).setCell (Nat.le_refl _) _).setCell (Nat.le_refl _) _)
set_option maxHeartbeats 1000000 in
theorem turn_8 (w : World) : Calls Try.prog 105 #[.int .i64 8] w fun e w' => e = .returned (tval (3, -4, 5)) ∧ Ext w w' := by
  have ca := fun (w' : World) => abs_any (3) w' (by omega)
  have Ca := Lib.hid ca
  clear ca
  go_enter Try.func105, Try.ntmps105
  go_wp2
  go_quiet ((go_at_call 107; exact Calls.quiet_of_same ((Ca.out _).mono fun _ _ h => ⟨h.1, h.2.symm⟩)))
  go_wp2
  refine bodyPost_ret (results_turn rfl _ _ rfl (Blk.set (j := 2) (Blk.set (j := 1) (Blk.set (j := 0) (Blk.ext (Blk.new' (cs := #[.int .i64 0, .int .i64 0, .int .i64 0]) (t := 92) rfl) (by simp (maxDischargeDepth := 12))) (by simp) _) (by simp) _) (by simp) _)) rfl ⟨rfl, ?_⟩
  exact (((Ext.setCell (by simp (maxDischargeDepth := 12)) (Nat.le_refl _) _).setCell (Nat.le_refl _) _).setCell (Nat.le_refl _) _)
set_option maxHeartbeats 1000000 in
theorem turn_9 (w : World) : Calls Try.prog 105 #[.int .i64 9] w fun e w' => e = .returned (tval (3, 4, 5)) ∧ Ext w w' := by
  have ca := fun (w' : World) => abs_any (3) w' (by omega)
  have Ca := Lib.hid ca
  clear ca
  go_enter Try.func105, Try.ntmps105
  go_wp2
  go_quiet ((go_at_call 107; exact Calls.quiet_of_same ((Ca.out _).mono fun _ _ h => ⟨h.1, h.2.symm⟩)))
  go_wp2
  refine bodyPost_ret (results_turn rfl _ _ rfl (Blk.set (j := 2) (Blk.set (j := 1) (Blk.set (j := 0) (Blk.ext (Blk.new' (cs := #[.int .i64 0, .int .i64 0, .int .i64 0]) (t := 92) rfl) (by simp (maxDischargeDepth := 12))) (by simp) _) (by simp) _) (by simp) _)) rfl ⟨rfl, ?_⟩
  exact (((Ext.setCell (by simp (maxDischargeDepth := 12)) (Nat.le_refl _) _).setCell (Nat.le_refl _) _).setCell (Nat.le_refl _) _)
set_option maxHeartbeats 1000000 in
theorem turn_10 (w : World) : Calls Try.prog 105 #[.int .i64 10] w fun e w' => e = .returned (tval (4, -3, 5)) ∧ Ext w w' := by
  have ca := fun (w' : World) => abs_any (4) w' (by omega)
  have Ca := Lib.hid ca
  clear ca
  go_enter Try.func105, Try.ntmps105
  go_wp2
  go_quiet ((go_at_call 107; exact Calls.quiet_of_same ((Ca.out _).mono fun _ _ h => ⟨h.1, h.2.symm⟩)))
  go_wp2
  refine bodyPost_ret (results_turn rfl _ _ rfl (Blk.set (j := 2) (Blk.set (j := 1) (Blk.set (j := 0) (Blk.ext (Blk.new' (cs := #[.int .i64 0, .int .i64 0, .int .i64 0]) (t := 92) rfl) (by simp (maxDischargeDepth := 12))) (by simp) _) (by simp) _) (by simp) _)) rfl ⟨rfl, ?_⟩
  exact (((Ext.setCell (by simp (maxDischargeDepth := 12)) (Nat.le_refl _) _).setCell (Nat.le_refl _) _).setCell (Nat.le_refl _) _)
set_option maxHeartbeats 1000000 in
theorem turn_11 (w : World) : Calls Try.prog 105 #[.int .i64 11] w fun e w' => e = .returned (tval (4, 3, 5)) ∧ Ext w w' := by
  have ca := fun (w' : World) => abs_any (4) w' (by omega)
  have Ca := Lib.hid ca
  clear ca
  go_enter Try.func105, Try.ntmps105
  go_wp2
  go_quiet ((go_at_call 107; exact Calls.quiet_of_same ((Ca.out _).mono fun _ _ h => ⟨h.1, h.2.symm⟩)))
  go_wp2
  refine bodyPost_ret (results_turn rfl _ _ rfl (Blk.set (j := 2) (Blk.set (j := 1) (Blk.set (j := 0) (Blk.ext (Blk.new' (cs := #[.int .i64 0, .int .i64 0, .int .i64 0]) (t := 92) rfl) (by simp (maxDischargeDepth := 12))) (by simp) _) (by simp) _) (by simp) _)) rfl ⟨rfl, ?_⟩
  exact (((Ext.setCell (by simp (maxDischargeDepth := 12)) (Nat.le_refl _) _).setCell (Nat.le_refl _) _).setCell (Nat.le_refl _) _)
end Go.Proofs.Yteilglljigjefaa
