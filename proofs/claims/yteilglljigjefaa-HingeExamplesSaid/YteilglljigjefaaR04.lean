/- The angles: by the reference, without a search. -/
import Derived.Test.YteilglljigjefaaR02
namespace Go.Proofs.Yteilglljigjefaa
open Go.RowKit
set_option maxHeartbeats 1000000 in
theorem turn_12 (w : World) : Calls Try.prog 105 #[.int .i64 12] w fun e w' => e = .returned (tval (-12, -5, 13)) ∧ Ext w w' := by
  have ca := fun (w' : World) => abs_any (-12) w' (by omega)
  have Ca := Lib.hid ca
  clear ca
  go_enter Try.func105, Try.ntmps105
  go_wp2
  go_quiet ((go_at_call 107; exact Calls.quiet_of_same ((Ca.out _).mono fun _ _ h => ⟨h.1, h.2.symm⟩)))
  go_wp2
  refine bodyPost_ret (results_turn rfl _ _ rfl (Blk.set (j := 2) (Blk.set (j := 1) (Blk.set (j := 0) (Blk.ext (Blk.new' (cs := #[.int .i64 0, .int .i64 0, .int .i64 0]) (t := 92) rfl) (by simp (maxDischargeDepth := 12))) (by simp) _) (by simp) _) (by simp) _)) rfl ⟨rfl, ?_⟩
  exact (((Ext.setCell (by simp (maxDischargeDepth := 12)) (Nat.le_refl _) _).setCell (Nat.le_refl _) _).setCell (Nat.le_refl _) _)
set_option maxHeartbeats 1000000 in
theorem turn_13 (w : World) : Calls Try.prog 105 #[.int .i64 13] w fun e w' => e = .returned (tval (-12, 5, 13)) ∧ Ext w w' := by
  have ca := fun (w' : World) => abs_any (-12) w' (by omega)
  have Ca := Lib.hid ca
  clear ca
  go_enter Try.func105, Try.ntmps105
  go_wp2
  go_quiet ((go_at_call 107; exact Calls.quiet_of_same ((Ca.out _).mono fun _ _ h => ⟨h.1, h.2.symm⟩)))
  go_wp2
  refine bodyPost_ret (results_turn rfl _ _ rfl (Blk.set (j := 2) (Blk.set (j := 1) (Blk.set (j := 0) (Blk.ext (Blk.new' (cs := #[.int .i64 0, .int .i64 0, .int .i64 0]) (t := 92) rfl) (by simp (maxDischargeDepth := 12))) (by simp) _) (by simp) _) (by simp) _)) rfl ⟨rfl, ?_⟩
  exact (((Ext.setCell (by simp (maxDischargeDepth := 12)) (Nat.le_refl _) _).setCell (Nat.le_refl _) _).setCell (Nat.le_refl _) _)
set_option maxHeartbeats 1000000 in
theorem turn_14 (w : World) : Calls Try.prog 105 #[.int .i64 14] w fun e w' => e = .returned (tval (-5, -12, 13)) ∧ Ext w w' := by
  have ca := fun (w' : World) => abs_any (-5) w' (by omega)
  have Ca := Lib.hid ca
  clear ca
  go_enter Try.func105, Try.ntmps105
  go_wp2
  go_quiet ((go_at_call 107; exact Calls.quiet_of_same ((Ca.out _).mono fun _ _ h => ⟨h.1, h.2.symm⟩)))
  go_wp2
  refine bodyPost_ret (results_turn rfl _ _ rfl (Blk.set (j := 2) (Blk.set (j := 1) (Blk.set (j := 0) (Blk.ext (Blk.new' (cs := #[.int .i64 0, .int .i64 0, .int .i64 0]) (t := 92) rfl) (by simp (maxDischargeDepth := 12))) (by simp) _) (by simp) _) (by simp) _)) rfl ⟨rfl, ?_⟩
  exact (((Ext.setCell (by simp (maxDischargeDepth := 12)) (Nat.le_refl _) _).setCell (Nat.le_refl _) _).setCell (Nat.le_refl _) _)
set_option maxHeartbeats 1000000 in
theorem turn_15 (w : World) : Calls Try.prog 105 #[.int .i64 15] w fun e w' => e = .returned (tval (-5, 12, 13)) ∧ Ext w w' := by
  have ca := fun (w' : World) => abs_any (-5) w' (by omega)
  have Ca := Lib.hid ca
  clear ca
  go_enter Try.func105, Try.ntmps105
  go_wp2
  go_quiet ((go_at_call 107; exact Calls.quiet_of_same ((Ca.out _).mono fun _ _ h => ⟨h.1, h.2.symm⟩)))
  go_wp2
  refine bodyPost_ret (results_turn rfl _ _ rfl (Blk.set (j := 2) (Blk.set (j := 1) (Blk.set (j := 0) (Blk.ext (Blk.new' (cs := #[.int .i64 0, .int .i64 0, .int .i64 0]) (t := 92) rfl) (by simp (maxDischargeDepth := 12))) (by simp) _) (by simp) _) (by simp) _)) rfl ⟨rfl, ?_⟩
  exact (((Ext.setCell (by simp (maxDischargeDepth := 12)) (Nat.le_refl _) _).setCell (Nat.le_refl _) _).setCell (Nat.le_refl _) _)
set_option maxHeartbeats 1000000 in
theorem turn_16 (w : World) : Calls Try.prog 105 #[.int .i64 16] w fun e w' => e = .returned (tval (5, -12, 13)) ∧ Ext w w' := by
  have ca := fun (w' : World) => abs_any (5) w' (by omega)
  have Ca := Lib.hid ca
  clear ca
  go_enter Try.func105, Try.ntmps105
  go_wp2
  go_quiet ((go_at_call 107; exact Calls.quiet_of_same ((Ca.out _).mono fun _ _ h => ⟨h.1, h.2.symm⟩)))
  go_wp2
  refine bodyPost_ret (results_turn rfl _ _ rfl (Blk.set (j := 2) (Blk.set (j := 1) (Blk.set (j := 0) (Blk.ext (Blk.new' (cs := #[.int .i64 0, .int .i64 0, .int .i64 0]) (t := 92) rfl) (by simp (maxDischargeDepth := 12))) (by simp) _) (by simp) _) (by simp) _)) rfl ⟨rfl, ?_⟩
  exact (((Ext.setCell (by simp (maxDischargeDepth := 12)) (Nat.le_refl _) _).setCell (Nat.le_refl _) _).setCell (Nat.le_refl _) _)
set_option maxHeartbeats 1000000 in
theorem turn_17 (w : World) : Calls Try.prog 105 #[.int .i64 17] w fun e w' => e = .returned (tval (5, 12, 13)) ∧ Ext w w' := by
  have ca := fun (w' : World) => abs_any (5) w' (by omega)
  have Ca := Lib.hid ca
  clear ca
  go_enter Try.func105, Try.ntmps105
  go_wp2
  go_quiet ((go_at_call 107; exact Calls.quiet_of_same ((Ca.out _).mono fun _ _ h => ⟨h.1, h.2.symm⟩)))
  go_wp2
  refine bodyPost_ret (results_turn rfl _ _ rfl (Blk.set (j := 2) (Blk.set (j := 1) (Blk.set (j := 0) (Blk.ext (Blk.new' (cs := #[.int .i64 0, .int .i64 0, .int .i64 0]) (t := 92) rfl) (by simp (maxDischargeDepth := 12))) (by simp) _) (by simp) _) (by simp) _)) rfl ⟨rfl, ?_⟩
  exact (((Ext.setCell (by simp (maxDischargeDepth := 12)) (Nat.le_refl _) _).setCell (Nat.le_refl _) _).setCell (Nat.le_refl _) _)
set_option maxHeartbeats 1000000 in
theorem turn_18 (w : World) : Calls Try.prog 105 #[.int .i64 18] w fun e w' => e = .returned (tval (12, -5, 13)) ∧ Ext w w' := by
  have ca := fun (w' : World) => abs_any (12) w' (by omega)
  have Ca := Lib.hid ca
  clear ca
  go_enter Try.func105, Try.ntmps105
  go_wp2
  go_quiet ((go_at_call 107; exact Calls.quiet_of_same ((Ca.out _).mono fun _ _ h => ⟨h.1, h.2.symm⟩)))
  go_wp2
  refine bodyPost_ret (results_turn rfl _ _ rfl (Blk.set (j := 2) (Blk.set (j := 1) (Blk.set (j := 0) (Blk.ext (Blk.new' (cs := #[.int .i64 0, .int .i64 0, .int .i64 0]) (t := 92) rfl) (by simp (maxDischargeDepth := 12))) (by simp) _) (by simp) _) (by simp) _)) rfl ⟨rfl, ?_⟩
  exact (((Ext.setCell (by simp (maxDischargeDepth := 12)) (Nat.le_refl _) _).setCell (Nat.le_refl _) _).setCell (Nat.le_refl _) _)
set_option maxHeartbeats 1000000 in
theorem turn_19 (w : World) : Calls Try.prog 105 #[.int .i64 19] w fun e w' => e = .returned (tval (12, 5, 13)) ∧ Ext w w' := by
  have ca := fun (w' : World) => abs_any (12) w' (by omega)
  have Ca := Lib.hid ca
  clear ca
  go_enter Try.func105, Try.ntmps105
  go_wp2
  go_quiet ((go_at_call 107; exact Calls.quiet_of_same ((Ca.out _).mono fun _ _ h => ⟨h.1, h.2.symm⟩)))
  go_wp2
  refine bodyPost_ret (results_turn rfl _ _ rfl (Blk.set (j := 2) (Blk.set (j := 1) (Blk.set (j := 0) (Blk.ext (Blk.new' (cs := #[.int .i64 0, .int .i64 0, .int .i64 0]) (t := 92) rfl) (by simp (maxDischargeDepth := 12))) (by simp) _) (by simp) _) (by simp) _)) rfl ⟨rfl, ?_⟩
  exact (((Ext.setCell (by simp (maxDischargeDepth := 12)) (Nat.le_refl _) _).setCell (Nat.le_refl _) _).setCell (Nat.le_refl _) _)
end Go.Proofs.Yteilglljigjefaa
