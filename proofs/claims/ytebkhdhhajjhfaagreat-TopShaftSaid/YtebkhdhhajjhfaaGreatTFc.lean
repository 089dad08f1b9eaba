/- The law TopShaft's walk, but for a panel that is turned. -/
import Derived.Test.YtebkhdhhajjhfaaGreatT34
namespace Go.Proofs.YtebkhdhhajjhfaaGreat.Lt
open Go.RowKit
theorem tmod4_emod (a : Int) : a.tmod 4 % 4 = a % 4 := by
  rcases Int.lt_or_le a 0 with h | h
  · have e := Int.neg_tmod (a := a) (b := 4)
    rw [Int.tmod_eq_emod_of_nonneg (by omega)] at e
    omega
  · rw [Int.tmod_eq_emod_of_nonneg h]
    omega
theorem shZ_mod (turns num den : Int) : shZ turns num den % 4 = (turns.tdiv den * num) % 4 := by
  unfold shZ
  rw [tmod4_emod, Int.mul_emod, tmod4_emod, tmod4_emod, ← Int.mul_emod]
theorem shZ_four {turns num den : Int} (hd : 1 ≤ den) (h : turns.tmod den = 0) : (4 * turns).tmod den = 0 ∧ shZ (4 * turns) num den % 4 = 0 := by
  obtain ⟨q, rfl⟩ := Int.dvd_of_tmod_eq_zero h
  have e : 4 * (den * q) = den * (4 * q) := by rw [← Int.mul_assoc, Int.mul_comm 4 den, Int.mul_assoc]
  refine ⟨by rw [e]; exact Int.mul_tmod_right den (4 * q), ?_⟩
  rw [shZ_mod, e, Int.mul_tdiv_cancel_left _ (by omega), Int.mul_assoc]
  exact Int.mul_emod_right 4 _
theorem shN {x : Int} : ((x.tmod 4) + 4).tmod 4 = x % 4 := by
  have h1 := tmod4 x
  have h2 := tmod4_emod x
  rw [Int.tmod_eq_emod_of_nonneg (by omega)]
  omega
abbrev ShaftYes (A : Option Addr) (c : Nat) (s i o turns : Int) (ms : List Gr.Msh) (B : Option Addr) (p : List Sp) (d : Nat) (w : World) : Prop :=
  Calls Tryz.prog 5 #[.agg #[.int .i64 s, .slice A ms.length c], .int .i64 i, .int .i64 o, .int .i64 turns, .slice B p.length d] w fun e w' => e = .returned (.bool true) ∧ Ext w w'
section
variable {A : Option Addr} {c : Nat} {s i o turns : Int} {ms : List Gr.Msh} {B : Option Addr} {p : List Sp} {d : Nat} {w : World}
set_option maxRecDepth 100000 in
set_option maxHeartbeats 1000000 in
theorem shaft_over (h : 30 < ms.length ∨ ms.length ≤ 30 ∧ (20 < p.length ∨ p.length ≤ 20 ∧ (turns < -1048576 ∨ -1048576 ≤ turns ∧ 1048576 < turns))) : ShaftYes A c s i o turns ms B p d w := by
  have hal := fun w' => alive_any w'
  have hg := fun w' => great_train A c ms.length s w'
  have Hal := Lib.hid hal
  have Hg := Lib.hid hg
  have kb : Blk (w.alloc (.cells #[.int .i64 s, .slice A ms.length c] 46)) w.heap.size [.int .i64 s, .slice A ms.length c] := Blk.new _ _
  have z0 := kb.at_ 0 rfl
  have z1 := kb.at_ 1 rfl
  have H0 := Lib.hid (show Ext w (w.alloc (.cells #[.int .i64 s, .slice A ms.length c] 46)) from (Ext.refl _).alloc _)
  clear hal hg kb
  unfold ShaftYes
  generalize ms.length = m at *
  generalize p.length = n at *
  rcases h with h | ⟨h, h' | ⟨h', h'' | ⟨h'', h3⟩⟩⟩
  · have hg1 : decide ((30 : Int) < (m : Int)) = true := decide_eq_true (by omega)
    clear h
    go_enter Tryz.func5, Tryz.ntmps5
    go_wp2_with (first
      | (go_at_call 13; refine (Hal.out _).mono ?_; rintro e w1 ⟨rfl, hx1⟩; have y0 := fun w' (he : Ext w1 w') => z0 w' (hx1.trans he); have y1 := fun w' (he : Ext w1 w') => z1 w' (hx1.trans he); have H1 := Lib.hid (H0.out.trans hx1); clear z0 z1 hx1)
      | (go_at_call 15; refine (Hg.out _).mono ?_; rintro e w2 ⟨rfl, hx2⟩; have H2 := Lib.hid (H1.out.trans hx2); clear hx2))
    go_ret
    exact ⟨rfl, H2.out⟩
  · have hg1 : decide ((30 : Int) < (m : Int)) = false := decide_eq_false (by omega)
    have h2 : (20 : Int) < (n : Int) := by omega
    clear h h'
    go_enter Tryz.func5, Tryz.ntmps5
    go_wp2_with (first
      | (go_at_call 13; refine (Hal.out _).mono ?_; rintro e w1 ⟨rfl, hx1⟩; have y0 := fun w' (he : Ext w1 w') => z0 w' (hx1.trans he); have y1 := fun w' (he : Ext w1 w') => z1 w' (hx1.trans he); have H1 := Lib.hid (H0.out.trans hx1); clear z0 z1 hx1)
      | (go_at_call 15; refine (Hg.out _).mono ?_; rintro e w2 ⟨rfl, hx2⟩; have H2 := Lib.hid (H1.out.trans hx2); clear hx2))
    go_ret
    exact ⟨rfl, H2.out⟩
  · have hg1 : decide ((30 : Int) < (m : Int)) = false := decide_eq_false (by omega)
    have h2 : ¬ (20 : Int) < (n : Int) := by omega
    clear h h'
    go_enter Tryz.func5, Tryz.ntmps5
    go_wp2_with (first
      | (go_at_call 13; refine (Hal.out _).mono ?_; rintro e w1 ⟨rfl, hx1⟩; have y0 := fun w' (he : Ext w1 w') => z0 w' (hx1.trans he); have y1 := fun w' (he : Ext w1 w') => z1 w' (hx1.trans he); have H1 := Lib.hid (H0.out.trans hx1); clear z0 z1 hx1)
      | (go_at_call 15; refine (Hg.out _).mono ?_; rintro e w2 ⟨rfl, hx2⟩; have H2 := Lib.hid (H1.out.trans hx2); clear hx2))
    go_ret
    exact ⟨rfl, H2.out⟩
  · have hg1 : decide ((30 : Int) < (m : Int)) = false := decide_eq_false (by omega)
    have h2 : ¬ (20 : Int) < (n : Int) := by omega
    have h4 : ¬ turns < -1048576 := by omega
    clear h h'
    go_enter Tryz.func5, Tryz.ntmps5
    go_wp2_with (first
      | (go_at_call 13; refine (Hal.out _).mono ?_; rintro e w1 ⟨rfl, hx1⟩; have y0 := fun w' (he : Ext w1 w') => z0 w' (hx1.trans he); have y1 := fun w' (he : Ext w1 w') => z1 w' (hx1.trans he); have H1 := Lib.hid (H0.out.trans hx1); clear z0 z1 hx1)
      | (go_at_call 15; refine (Hg.out _).mono ?_; rintro e w2 ⟨rfl, hx2⟩; have H2 := Lib.hid (H1.out.trans hx2); clear hx2))
    go_ret
    exact ⟨rfl, H2.out⟩
set_option maxRecDepth 100000 in
set_option maxHeartbeats 1000000 in
theorem shaft_none (hA : Gr.MRow w A ms) (hm : ms.length ≤ 30) (hn : p.length ≤ 20) (ht1 : -1048576 ≤ turns) (ht2 : turns ≤ 1048576) (h : ¬ ∃ num den, HasRat s ms i o num den) : ShaftYes A c s i o turns ms B p d w := by
  have hal := fun w' => alive_any w'
  have hg := fun w' => great_train A c ms.length s w'
  have h1 := fun w' (he : Ext w w') => shafted_no A c s i o turns ms B p.length d w' (hA.ext he) (by omega) h
  have h2 := fun w' (he : Ext w w') => shafted_no A c s i o (4 * turns) ms B p.length d w' (hA.ext he) (by omega) h
  have h3 := fun w' (he : Ext w w') => ratio_no A c s i o ms w' (hA.ext he) (by omega) h
  have Hal := Lib.hid hal
  have Hg := Lib.hid hg
  have Hs1 := Lib.hid h1
  have Hs2 := Lib.hid h2
  have Hr := Lib.hid h3
  have kb : Blk (w.alloc (.cells #[.int .i64 s, .slice A ms.length c] 46)) w.heap.size [.int .i64 s, .slice A ms.length c] := Blk.new _ _
  have z0 := kb.at_ 0 rfl
  have z1 := kb.at_ 1 rfl
  have H0 := Lib.hid (show Ext w (w.alloc (.cells #[.int .i64 s, .slice A ms.length c] 46)) from (Ext.refl _).alloc _)
  clear hal hg kb h1 h2 h3 hA h
  unfold ShaftYes
  generalize ms.length = m at *
  generalize p.length = n at *
  have hg1 : decide ((30 : Int) < (m : Int)) = false := decide_eq_false (by omega)
  have hn2 : ¬ (20 : Int) < (n : Int) := by omega
  have ht3 : ¬ turns < -1048576 := by omega
  have ht4 : ¬ 1048576 < turns := by omega
  have hw4 : IntKind.i64.wrap (4 * turns) = 4 * turns := by rw [IntKind.wrap_i64]; omega
  clear ht1 ht2 hm hn
  go_enter Tryz.func5, Tryz.ntmps5
  go_wp2_with (first
    | (go_at_call 13; refine (Hal.out _).mono ?_; rintro e w1 ⟨rfl, hx1⟩; have y0 := fun w' (he : Ext w1 w') => z0 w' (hx1.trans he); have y1 := fun w' (he : Ext w1 w') => z1 w' (hx1.trans he); have H1 := Lib.hid (H0.out.trans hx1); clear z0 z1 hx1)
    | (go_at_call 15; refine (Hg.out _).mono ?_; rintro e w2 ⟨rfl, hx2⟩; have v0 := fun w' (he : Ext w2 w') => y0 w' (hx2.trans he); have v1 := fun w' (he : Ext w2 w') => y1 w' (hx2.trans he); have H2 := Lib.hid (H1.out.trans hx2); clear y0 y1 hx2)
    | (go_at_call 17; refine (Hr.out _ H4.out).mono ?_; rintro e w5 ⟨B1, B2, B3, r1, d1, r2, d2, r3, d3, num, den, x, rfl, hne, hx5⟩; have hb1 : (x == 0) = false := (by simp [hne]); have hb2 : (x != 0) = true := (by simp [hne]); have H5 := Lib.hid (H4.out.trans hx5); clear q0 q1 hx5 hne)
    | (go_at_call 16; have hq := H3; clear hq; refine (Hs2.out _ H3.out).mono ?_; rintro e w4 ⟨rfl, hx4⟩; have q0 := fun w' (he : Ext w4 w') => u0 w' (hx4.trans he); have q1 := fun w' (he : Ext w4 w') => u1 w' (hx4.trans he); have H4 := Lib.hid (H3.out.trans hx4); clear u0 u1 hx4)
    | (go_at_call 16; refine (Hs1.out _ H2.out).mono ?_; rintro e w3 ⟨rfl, hx3⟩; have u0 := fun w' (he : Ext w3 w') => v0 w' (hx3.trans he); have u1 := fun w' (he : Ext w3 w') => v1 w' (hx3.trans he); have H3 := Lib.hid (H2.out.trans hx3); clear v0 v1 hx3))
  go_ret
  exact ⟨rfl, H5.out.alloc _⟩
end
end Go.Proofs.YtebkhdhhajjhfaaGreat.Lt
