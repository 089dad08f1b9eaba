/- The angles: by the reference, without a search. -/
import Derived.Test.YteilglljigjefaaR02
namespace Go.Proofs.Yteilglljigjefaa
open Go.RowKit
set_option maxHeartbeats 1000000 in
theorem turn_20 (w : World) : Calls Try.prog 105 #[.int .i64 20] w fun e w' => e = .returned (tval (-15, -8, 17)) ∧ Ext w w' := by
  have ca := fun (w' : World) => abs_any (-15) w' (by omega)
  have Ca := Lib.hid ca
  clear ca
  go_enter Try.func105, Try.ntmps105
  go_wp2
  go_quiet ((go_at_call 107; exact Calls.quiet_of_same ((Ca.out _).mono fun _ _ h => ⟨h.1, h.2.symm⟩)))
  go_wp2
  refine bodyPost_ret (results_turn rfl _ _ rfl (Blk.set (j := 2) (Blk.set (j := 1) (Blk.set (j := 0) (Blk.ext (Blk.new' (cs := #[.int .i64 0, .int .i64 0, .int .i64 0]) (t := 92) rfl) (by simp (maxDischargeDepth := 12))) (by simp) _) (by simp) _) (by simp) _)) rfl ⟨rfl, ?_⟩
  exact (((Ext.setCell (by simp (maxDischargeDepth := 12)) (Nat.le_refl _) _).setCell (Nat.le_refl _) _).setCell (Nat.le_refl _) _)
set_option maxHeartbeats 1000000 in
theorem turn_21 (w : World) : Calls Try.prog 105 #[.int .i64 21] w fun e w' => e = .returned (tval (-15, 8, 17)) ∧ Ext w w' := by
  have ca := fun (w' : World) => abs_any (-15) w' (by omega)
  have Ca := Lib.hid ca
  clear ca
  go_enter Try.func105, Try.ntmps105
  go_wp2
  go_quiet ((go_at_call 107; exact Calls.quiet_of_same ((Ca.out _).mono fun _ _ h => ⟨h.1, h.2.symm⟩)))
  go_wp2
  refine bodyPost_ret (results_turn rfl _ _ rfl (Blk.set (j := 2) (Blk.set (j := 1) (Blk.set (j := 0) (Blk.ext (Blk.new' (cs := #[.int .i64 0, .int .i64 0, .int .i64 0]) (t := 92) rfl) (by simp (maxDischargeDepth := 12))) (by simp) _) (by simp) _) (by simp) _)) rfl ⟨rfl, ?_⟩
  exact (((Ext.setCell (by simp (maxDischargeDepth := 12)) (Nat.le_refl _) _).setCell (Nat.le_refl _) _).setCell (Nat.le_refl _) _)
set_option maxHeartbeats 1000000 in
theorem turn_22 (w : World) : Calls Try.prog 105 #[.int .i64 22] w fun e w' => e = .returned (tval (-8, -15, 17)) ∧ Ext w w' := by
  have ca := fun (w' : World) => abs_any (-8) w' (by omega)
  have Ca := Lib.hid ca
  clear ca
  go_enter Try.func105, Try.ntmps105
  go_wp2
  go_quiet ((go_at_call 107; exact Calls.quiet_of_same ((Ca.out _).mono fun _ _ h => ⟨h.1, h.2.symm⟩)))
  go_wp2
  refine bodyPost_ret (results_turn rfl _ _ rfl (Blk.set (j := 2) (Blk.set (j := 1) (Blk.set (j := 0) (Blk.ext (Blk.new' (cs := #[.int .i64 0, .int .i64 0, .int .i64 0]) (t := 92) rfl) (by simp (maxDischargeDepth := 12))) (by simp) _) (by simp) _) (by simp) _)) rfl ⟨rfl, ?_⟩
  exact (((Ext.setCell (by simp (maxDischargeDepth := 12)) (Nat.le_refl _) _).setCell (Nat.le_refl _) _).setCell (Nat.le_refl _) _)
set_option maxHeartbeats 1000000 in
theorem turn_23 (w : World) : Calls Try.prog 105 #[.int .i64 23] w fun e w' => e = .returned (tval (-8, 15, 17)) ∧ Ext w w' := by
  have ca := fun (w' : World) => abs_any (-8) w' (by omega)
  have Ca := Lib.hid ca
  clear ca
  go_enter Try.func105, Try.ntmps105
  go_wp2
  go_quiet ((go_at_call 107; exact Calls.quiet_of_same ((Ca.out _).mono fun _ _ h => ⟨h.1, h.2.symm⟩)))
  go_wp2
  refine bodyPost_ret (results_turn rfl _ _ rfl (Blk.set (j := 2) (Blk.set (j := 1) (Blk.set (j := 0) (Blk.ext (Blk.new' (cs := #[.int .i64 0, .int .i64 0, .int .i64 0]) (t := 92) rfl) (by simp (maxDischargeDepth := 12))) (by simp) _) (by simp) _) (by simp) _)) rfl ⟨rfl, ?_⟩
  exact (((Ext.setCell (by simp (maxDischargeDepth := 12)) (Nat.le_refl _) _).setCell (Nat.le_refl _) _).setCell (Nat.le_refl _) _)
set_option maxHeartbeats 1000000 in
theorem turn_24 (w : World) : Calls Try.prog 105 #[.int .i64 24] w fun e w' => e = .returned (tval (8, -15, 17)) ∧ Ext w w' := by
  have ca := fun (w' : World) => abs_any (8) w' (by omega)
  have Ca := Lib.hid ca
  clear ca
  go_enter Try.func105, Try.ntmps105
  go_wp2
  go_quiet ((go_at_call 107; exact Calls.quiet_of_same ((Ca.out _).mono fun _ _ h => ⟨h.1, h.2.symm⟩)))
  go_wp2
  refine bodyPost_ret (results_turn rfl _ _ rfl (Blk.set (j := 2) (Blk.set (j := 1) (Blk.set (j := 0) (Blk.ext (Blk.new' (cs := #[.int .i64 0, .int .i64 0, .int .i64 0]) (t := 92) rfl) (by simp (maxDischargeDepth := 12))) (by simp) _) (by simp) _) (by simp) _)) rfl ⟨rfl, ?_⟩
  exact (((Ext.setCell (by simp (maxDischargeDepth := 12)) (Nat.le_refl _) _).setCell (Nat.le_refl _) _).setCell (Nat.le_refl _) _)
set_option maxHeartbeats 1000000 in
theorem turn_25 (w : World) : Calls Try.prog 105 #[.int .i64 25] w fun e w' => e = .returned (tval (8, 15, 17)) ∧ Ext w w' := by
  have ca := fun (w' : World) => abs_any (8) w' (by omega)
  have Ca := Lib.hid ca
  clear ca
  go_enter Try.func105, Try.ntmps105
  go_wp2
  go_quiet ((go_at_call 107; exact Calls.quiet_of_same ((Ca.out _).mono fun _ _ h => ⟨h.1, h.2.symm⟩)))
  go_wp2
  refine bodyPost_ret (results_turn rfl _ _ rfl (Blk.set (j := 2) (Blk.set (j := 1) (Blk.set (j := 0) (Blk.ext (Blk.new' (cs := #[.int .i64 0, .int .i64 0, .int .i64 0]) (t := 92) rfl) (by simp (maxDischargeDepth := 12))) (by simp) _) (by simp) _) (by simp) _)) rfl ⟨rfl, ?_⟩
  exact (((Ext.setCell (by simp (maxDischargeDepth := 12)) (Nat.le_refl _) _).setCell (Nat.le_refl _) _).setCell (Nat.le_refl _) _)
set_option maxHeartbeats 1000000 in
theorem turn_26 (w : World) : Calls Try.prog 105 #[.int .i64 26] w fun e w' => e = .returned (tval (15, -8, 17)) ∧ Ext w w' := by
  have ca := fun (w' : World) => abs_any (15) w' (by omega)
  have Ca := Lib.hid ca
  clear ca
  go_enter Try.func105, Try.ntmps105
  go_wp2
  go_quiet ((go_at_call 107; exact Calls.quiet_of_same ((Ca.out _).mono fun _ _ h => ⟨h.1, h.2.symm⟩)))
  go_wp2
  refine bodyPost_ret (results_turn rfl _ _ rfl (Blk.set (j := 2) (Blk.set (j := 1) (Blk.set (j := 0) (Blk.ext (Blk.new' (cs := #[.int .i64 0, .int .i64 0, .int .i64 0]) (t := 92) rfl) (by simp (maxDischargeDepth := 12))) (by simp) _) (by simp) _) (by simp) _)) rfl ⟨rfl, ?_⟩
  exact (((Ext.setCell (by simp (maxDischargeDepth := 12)) (Nat.le_refl _) _).setCell (Nat.le_refl _) _).setCell (Nat.le_refl _) _)
set_option maxHeartbeats 1000000 in
theorem turn_27 (w : World) : Calls Try.prog 105 #[.int .i64 27] w fun e w' => e = .returned (tval (15, 8, 17)) ∧ Ext w w' := by
  have ca := fun (w' : World) => abs_any (15) w' (by omega)
  have Ca := Lib.hid ca
  clear ca
  go_enter Try.func105, Try.ntmps105
  go_wp2
  go_quiet ((go_at_call 107; exact Calls.quiet_of_same ((Ca.out _).mono fun _ _ h => ⟨h.1, h.2.symm⟩)))
  go_wp2
  refine bodyPost_ret (results_turn rfl _ _ rfl (Blk.set (j := 2) (Blk.set (j := 1) (Blk.set (j := 0) (Blk.ext (Blk.new' (cs := #[.int .i64 0, .int .i64 0, .int .i64 0]) (t := 92) rfl) (by simp (maxDischargeDepth := 12))) (by simp) _) (by simp) _) (by simp) _)) rfl ⟨rfl, ?_⟩
  exact (((Ext.setCell (by simp (maxDischargeDepth := 12)) (Nat.le_refl _) _).setCell (Nat.le_refl _) _).setCell (Nat.le_refl _) _)
end Go.Proofs.Yteilglljigjefaa
