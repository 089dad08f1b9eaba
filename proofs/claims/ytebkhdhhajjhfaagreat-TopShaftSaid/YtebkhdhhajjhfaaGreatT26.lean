/- Which proofs are right: by the code. -/
import Derived.Test.YtebkhdhhajjhfaaGreatT25
namespace Go.Proofs.YtebkhdhhajjhfaaGreat
open Go.RowKit
theorem rightB_yes {r : Apr} {a b : List Cn} (h : rightP r a b) : true = rightB r a b := (decide_eq_true h).symm
theorem rightB_clear {r : Apr} {a b : List Cn} (h : r.clear = true) : rightB r a b = btwB r a b := by
  unfold rightB btwB rightP
  simp [h]
theorem rightB_ins {r : Apr} {a b : List Cn} (h : r.clear = false) : rightB r a b = decide (insP r a b) := by
  unfold rightB rightP
  simp [h]
set_option maxRecDepth 100000 in
set_option maxHeartbeats 16000000 in
theorem right_head (rA rB rC rE : Int) (I : Option Addr) (q ic : Nat) (A : Option Addr) (n ca : Nat) (B : Option Addr) (m cb : Nat) (w : World)
    (hbad : ¬ (q = 0 ∧ (-10000000 ≤ rA ∧ rA ≤ 10000000) ∧ (-10000000 ≤ rB ∧ rB ≤ 10000000) ∧ ¬ (rA = 0 ∧ rB = 0) ∧ (-100000000000000 ≤ rC ∧ rC ≤ 100000000000000) ∧ (1 ≤ rE ∧ rE ≤ 20000))) :
    Calls Tryz.prog 79 #[.agg #[.bool true, vint rA, vint rB, vint rC, vint rE, .slice I q ic], .slice A n ca, .slice B m cb] w fun en w' => en = .returned (.bool false) ∧ Ext w w' := by
  have hx0 : Ext w (w.alloc (.cells #[.bool true, vint rA, vint rB, vint rC, vint rE, .slice I q ic] 111)) := (Ext.refl _).alloc _
  have hsf : ∀ (a : Addr) (f : Fn) (x y : Array Value) (w : World), (store a (.func f x y)).run Tryz.prog w = stored Tryz.prog w a (.func f x y) .plain := fun a f x y w => run_store Tryz.prog w a _ .plain rfl
  have Hbad := Lib.hid hbad
  clear hbad
  go_enter Tryz.func79, Tryz.ntmps79
  go_wp2_with (go_at_call 113; exfalso; have hb := Hbad.out; simp at *; omega)
  all_goals go_ret
  all_goals exact ⟨rfl, (Ext.refl _).alloc _⟩
end Go.Proofs.YtebkhdhhajjhfaaGreat
