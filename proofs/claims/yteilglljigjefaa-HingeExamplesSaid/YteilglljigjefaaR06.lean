/- The angles: by the reference, without a search. -/
import Derived.Test.YteilglljigjefaaR02
namespace Go.Proofs.Yteilglljigjefaa
open Go.RowKit
set_option maxHeartbeats 1000000 in
theorem turn_28 (w : World) : Calls Try.prog 105 #[.int .i64 28] w fun e w' => e = .returned (tval (-24, -7, 25)) ∧ Ext w w' := by
  have ca := fun (w' : World) => abs_any (-24) w' (by omega)
  have Ca := Lib.hid ca
  clear ca
  go_enter Try.func105, Try.ntmps105
  go_wp2
  go_quiet ((go_at_call 107; exact Calls.quiet_of_same ((Ca.out _).mono fun _ _ h => ⟨h.1, h.2.symm⟩)))
  go_wp2
  refine bodyPost_ret (results_turn rfl _ _ rfl (Blk.set (j := 2) (Blk.set (j := 1) (Blk.set (j := 0) (Blk.ext (Blk.new' (cs := #[.int .i64 0, .int .i64 0, .int .i64 0]) (t := 92) rfl) (by simp (maxDischargeDepth := 12))) (by simp) _) (by simp) _) (by simp) _)) rfl ⟨rfl, ?_⟩
  exact (((Ext.setCell (by simp (maxDischargeDepth := 12)) (Nat.le_refl _) _).setCell (Nat.le_refl _) _).setCell (Nat.le_refl _) _)
set_option maxHeartbeats 1000000 in
theorem turn_29 (w : World) : Calls Try.prog 105 #[.int .i64 29] w fun e w' => e = .returned (tval (-24, 7, 25)) ∧ Ext w w' := by
  have ca := fun (w' : World) => abs_any (-24) w' (by omega)
  have Ca := Lib.hid ca
  clear ca
  go_enter Try.func105, Try.ntmps105
  go_wp2
  go_quiet ((go_at_call 107; exact Calls.quiet_of_same ((Ca.out _).mono fun _ _ h => ⟨h.1, h.2.symm⟩)))
  go_wp2
  refine bodyPost_ret (results_turn rfl _ _ rfl (Blk.set (j := 2) (Blk.set (j := 1) (Blk.set (j := 0) (Blk.ext (Blk.new' (cs := #[.int .i64 0, .int .i64 0, .int .i64 0]) (t := 92) rfl) (by simp (maxDischargeDepth := 12))) (by simp) _) (by simp) _) (by simp) _)) rfl ⟨rfl, ?_⟩
  exact (((Ext.setCell (by simp (maxDischargeDepth := 12)) (Nat.le_refl _) _).setCell (Nat.le_refl _) _).setCell (Nat.le_refl _) _)
set_option maxHeartbeats 1000000 in
theorem turn_30 (w : World) : Calls Try.prog 105 #[.int .i64 30] w fun e w' => e = .returned (tval (-7, -24, 25)) ∧ Ext w w' := by
  have ca := fun (w' : World) => abs_any (-7) w' (by omega)
  have Ca := Lib.hid ca
  clear ca
  go_enter Try.func105, Try.ntmps105
  go_wp2
  go_quiet ((go_at_call 107; exact Calls.quiet_of_same ((Ca.out _).mono fun _ _ h => ⟨h.1, h.2.symm⟩)))
  go_wp2
  refine bodyPost_ret (results_turn rfl _ _ rfl (Blk.set (j := 2) (Blk.set (j := 1) (Blk.set (j := 0) (Blk.ext (Blk.new' (cs := #[.int .i64 0, .int .i64 0, .int .i64 0]) (t := 92) rfl) (by simp (maxDischargeDepth := 12))) (by simp) _) (by simp) _) (by simp) _)) rfl ⟨rfl, ?_⟩
  exact (((Ext.setCell (by simp (maxDischargeDepth := 12)) (Nat.le_refl _) _).setCell (Nat.le_refl _) _).setCell (Nat.le_refl _) _)
set_option maxHeartbeats 1000000 in
theorem turn_31 (w : World) : Calls Try.prog 105 #[.int .i64 31] w fun e w' => e = .returned (tval (-7, 24, 25)) ∧ Ext w w' := by
  have ca := fun (w' : World) => abs_any (-7) w' (by omega)
  have Ca := Lib.hid ca
  clear ca
  go_enter Try.func105, Try.ntmps105
  go_wp2
  go_quiet ((go_at_call 107; exact Calls.quiet_of_same ((Ca.out _).mono fun _ _ h => ⟨h.1, h.2.symm⟩)))
  go_wp2
  refine bodyPost_ret (results_turn rfl _ _ rfl (Blk.set (j := 2) (Blk.set (j := 1) (Blk.set (j := 0) (Blk.ext (Blk.new' (cs := #[.int .i64 0, .int .i64 0, .int .i64 0]) (t := 92) rfl) (by simp (maxDischargeDepth := 12))) (by simp) _) (by simp) _) (by simp) _)) rfl ⟨rfl, ?_⟩
  exact (((Ext.setCell (by simp (maxDischargeDepth := 12)) (Nat.le_refl _) _).setCell (Nat.le_refl _) _).setCell (Nat.le_refl _) _)
set_option maxHeartbeats 1000000 in
theorem turn_32 (w : World) : Calls Try.prog 105 #[.int .i64 32] w fun e w' => e = .returned (tval (7, -24, 25)) ∧ Ext w w' := by
  have ca := fun (w' : World) => abs_any (7) w' (by omega)
  have Ca := Lib.hid ca
  clear ca
  go_enter Try.func105, Try.ntmps105
  go_wp2
  go_quiet ((go_at_call 107; exact Calls.quiet_of_same ((Ca.out _).mono fun _ _ h => ⟨h.1, h.2.symm⟩)))
  go_wp2
  refine bodyPost_ret (results_turn rfl _ _ rfl (Blk.set (j := 2) (Blk.set (j := 1) (Blk.set (j := 0) (Blk.ext (Blk.new' (cs := #[.int .i64 0, .int .i64 0, .int .i64 0]) (t := 92) rfl) (by simp (maxDischargeDepth := 12))) (by simp) _) (by simp) _) (by simp) _)) rfl ⟨rfl, ?_⟩
  exact (((Ext.setCell (by simp (maxDischargeDepth := 12)) (Nat.le_refl _) _).setCell (Nat.le_refl _) _).setCell (Nat.le_refl _) _)
set_option maxHeartbeats 1000000 in
theorem turn_33 (w : World) : Calls Try.prog 105 #[.int .i64 33] w fun e w' => e = .returned (tval (7, 24, 25)) ∧ Ext w w' := by
  have ca := fun (w' : World) => abs_any (7) w' (by omega)
  have Ca := Lib.hid ca
  clear ca
  go_enter Try.func105, Try.ntmps105
  go_wp2
  go_quiet ((go_at_call 107; exact Calls.quiet_of_same ((Ca.out _).mono fun _ _ h => ⟨h.1, h.2.symm⟩)))
  go_wp2
  refine bodyPost_ret (results_turn rfl _ _ rfl (Blk.set (j := 2) (Blk.set (j := 1) (Blk.set (j := 0) (Blk.ext (Blk.new' (cs := #[.int .i64 0, .int .i64 0, .int .i64 0]) (t := 92) rfl) (by simp (maxDischargeDepth := 12))) (by simp) _) (by simp) _) (by simp) _)) rfl ⟨rfl, ?_⟩
  exact (((Ext.setCell (by simp (maxDischargeDepth := 12)) (Nat.le_refl _) _).setCell (Nat.le_refl _) _).setCell (Nat.le_refl _) _)
set_option maxHeartbeats 1000000 in
theorem turn_34 (w : World) : Calls Try.prog 105 #[.int .i64 34] w fun e w' => e = .returned (tval (24, -7, 25)) ∧ Ext w w' := by
  have ca := fun (w' : World) => abs_any (24) w' (by omega)
  have Ca := Lib.hid ca
  clear ca
  go_enter Try.func105, Try.ntmps105
  go_wp2
  go_quiet ((go_at_call 107; exact Calls.quiet_of_same ((Ca.out _).mono fun _ _ h => ⟨h.1, h.2.symm⟩)))
  go_wp2
  refine bodyPost_ret (results_turn rfl _ _ rfl (Blk.set (j := 2) (Blk.set (j := 1) (Blk.set (j := 0) (Blk.ext (Blk.new' (cs := #[.int .i64 0, .int .i64 0, .int .i64 0]) (t := 92) rfl) (by simp (maxDischargeDepth := 12))) (by simp) _) (by simp) _) (by simp) _)) rfl ⟨rfl, ?_⟩
  exact (((Ext.setCell (by simp (maxDischargeDepth := 12)) (Nat.le_refl _) _).setCell (Nat.le_refl _) _).setCell (Nat.le_refl _) _)
set_option maxHeartbeats 1000000 in
theorem turn_35 (w : World) : Calls Try.prog 105 #[.int .i64 35] w fun e w' => e = .returned (tval (24, 7, 25)) ∧ Ext w w' := by
  have ca := fun (w' : World) => abs_any (24) w' (by omega)
  have Ca := Lib.hid ca
  clear ca
  go_enter Try.func105, Try.ntmps105
  go_wp2
  go_quiet ((go_at_call 107; exact Calls.quiet_of_same ((Ca.out _).mono fun _ _ h => ⟨h.1, h.2.symm⟩)))
  go_wp2
  refine bodyPost_ret (results_turn rfl _ _ rfl (Blk.set (j := 2) (Blk.set (j := 1) (Blk.set (j := 0) (Blk.ext (Blk.new' (cs := #[.int .i64 0, .int .i64 0, .int .i64 0]) (t := 92) rfl) (by simp (maxDischargeDepth := 12))) (by simp) _) (by simp) _) (by simp) _)) rfl ⟨rfl, ?_⟩
  exact (((Ext.setCell (by simp (maxDischargeDepth := 12)) (Nat.le_refl _) _).setCell (Nat.le_refl _) _).setCell (Nat.le_refl _) _)
end Go.Proofs.Yteilglljigjefaa
