/- HingeClashes: the law's own walk. -/
import Derived.Test.YteilglljigjefaaJ29
import Derived.Test.YteilglljigjefaaJ19
import Derived.Test.YteilglljigjefaaJ01
namespace Go.Proofs.Yteilglljigjefaa
open Go.RowKit
set_option maxRecDepth 100000 in
set_option maxHeartbeats 4000000 in
theorem clashes_law_out (A : Option Addr) (c : Nat) (ps : List (List Sp)) (B : Option Addr) (d : Nat) (hs : List Hg) (i k : Int) (r : Apr) (I : Option Addr) (ic : Nat) (w : World) (hA : PnRow w A ps) (_hB : HRow w B hs) (hg : greatP ps hs ∨ 100 < r.ins.length) :
    Calls Try.prog 6 #[.agg #[.slice A ps.length c, .slice B hs.length d], .int .i64 i, .int .i64 k, r.val I ic] w fun e w' => e = .returned (.bool true) ∧ Ext w w' := by
  obtain ⟨rc, rA, rB, rC, rE, ri⟩ := r
  have hgr := fun w' (he : Ext w w') => great_any A c ps B d hs w' (hA.ext he)
  by_cases h1 : greatP ps hs
  · rw [← greatB_yes h1] at hgr
    have Hgr := Lib.hid hgr
    clear hgr hA _hB hg h1
    generalize ps.length = np at *
    generalize hs.length = nh at *
    have kl : Blk ((w.alloc (.cells #[.slice A np c, .slice B nh d] 25)).alloc (.cells #[.bool rc, vint rA, vint rB, vint rC, vint rE, .slice I ri.length ic] 67)) w.heap.size [.slice A np c, .slice B nh d] := (Blk.new _ _).ext ((Ext.refl _).alloc _)
    have ka : Blk ((w.alloc (.cells #[.slice A np c, .slice B nh d] 25)).alloc (.cells #[.bool rc, vint rA, vint rB, vint rC, vint rE, .slice I ri.length ic] 67)) (w.heap.size + 1) [.bool rc, vint rA, vint rB, vint rC, vint rE, .slice I ri.length ic] := Blk.new' (cs := #[.bool rc, vint rA, vint rB, vint rC, vint rE, .slice I ri.length ic]) (by simp)
    have b0 := kl.at_ 0 rfl
    have b1 := kl.at_ 1 rfl
    have a0 := ka.at_ 0 rfl
    have a1 := ka.at_ 1 rfl
    have a2 := ka.at_ 2 rfl
    have a3 := ka.at_ 3 rfl
    have a4 := ka.at_ 4 rfl
    have a5 := ka.at_ 5 rfl
    have hx0 : Ext w ((w.alloc (.cells #[.slice A np c, .slice B nh d] 25)).alloc (.cells #[.bool rc, vint rA, vint rB, vint rC, vint rE, .slice I ri.length ic] 67)) := ((Ext.refl _).alloc _).alloc _
    have Hx0 := Lib.hid hx0
    clear kl ka hx0
    go_enter Try.func6, Try.ntmps6
    go_wp2_with (go_at_call 17; refine (Hgr.out _ Hx0.out).mono ?_; rintro e w1 ⟨rfl, hx1⟩)
    go_ret
    exact ⟨rfl, Hx0.out.trans hx1⟩
  · rw [← greatB_no h1] at hgr
    have hm : 100 < ri.length := by
      rcases hg with h | h
      · exact absurd h h1
      · exact h
    have Hgr := Lib.hid hgr
    clear hgr hA _hB hg h1
    generalize ps.length = np at *
    generalize hs.length = nh at *
    have d1 : decide ((100 : Int) < (ri.length : Int)) = true := by simp; omega
    have kl : Blk ((w.alloc (.cells #[.slice A np c, .slice B nh d] 25)).alloc (.cells #[.bool rc, vint rA, vint rB, vint rC, vint rE, .slice I ri.length ic] 67)) w.heap.size [.slice A np c, .slice B nh d] := (Blk.new _ _).ext ((Ext.refl _).alloc _)
    have ka : Blk ((w.alloc (.cells #[.slice A np c, .slice B nh d] 25)).alloc (.cells #[.bool rc, vint rA, vint rB, vint rC, vint rE, .slice I ri.length ic] 67)) (w.heap.size + 1) [.bool rc, vint rA, vint rB, vint rC, vint rE, .slice I ri.length ic] := Blk.new' (cs := #[.bool rc, vint rA, vint rB, vint rC, vint rE, .slice I ri.length ic]) (by simp)
    have b0 := kl.at_ 0 rfl
    have b1 := kl.at_ 1 rfl
    have a0 := ka.at_ 0 rfl
    have a1 := ka.at_ 1 rfl
    have a2 := ka.at_ 2 rfl
    have a3 := ka.at_ 3 rfl
    have a4 := ka.at_ 4 rfl
    have a5 := ka.at_ 5 rfl
    have hx0 : Ext w ((w.alloc (.cells #[.slice A np c, .slice B nh d] 25)).alloc (.cells #[.bool rc, vint rA, vint rB, vint rC, vint rE, .slice I ri.length ic] 67)) := ((Ext.refl _).alloc _).alloc _
    have Hx0 := Lib.hid hx0
    clear kl ka hx0
    go_enter Try.func6, Try.ntmps6
    go_wp2_with (go_at_call 17; refine (Hgr.out _ Hx0.out).mono ?_; rintro e w1 ⟨rfl, hx1⟩; replace b0 : ∀ w', Ext w1 w' → _ := fun w' he => b0 w' (hx1.trans he); replace b1 : ∀ w', Ext w1 w' → _ := fun w' he => b1 w' (hx1.trans he); replace a0 : ∀ w', Ext w1 w' → _ := fun w' he => a0 w' (hx1.trans he); replace a1 : ∀ w', Ext w1 w' → _ := fun w' he => a1 w' (hx1.trans he); replace a2 : ∀ w', Ext w1 w' → _ := fun w' he => a2 w' (hx1.trans he); replace a3 : ∀ w', Ext w1 w' → _ := fun w' he => a3 w' (hx1.trans he); replace a4 : ∀ w', Ext w1 w' → _ := fun w' he => a4 w' (hx1.trans he); replace a5 : ∀ w', Ext w1 w' → _ := fun w' he => a5 w' (hx1.trans he))
    go_ret
    exact ⟨rfl, Hx0.out.trans hx1⟩
set_option maxRecDepth 100000 in
set_option maxHeartbeats 16000000 in
theorem clashes_law_in (A : Option Addr) (c : Nat) (ps : List (List Sp)) (B : Option Addr) (d : Nat) (hs : List Hg) (i k : Int) (r : Apr) (I : Option Addr) (ic : Nat) (w : World) (hA : PnRow w A ps) (hB : HRow w B hs) (hr : AprIn w r I ic) (hg : ¬ greatP ps hs) (hm : r.ins.length ≤ 100) :
    Calls Try.prog 6 #[.agg #[.slice A ps.length c, .slice B hs.length d], .int .i64 i, .int .i64 k, r.val I ic] w fun e w' => e = .returned (.bool true) ∧ Ext w w' := by
  have hL := lk_of hA hB hg
  have hgr := fun w' (he : Ext w w') => great_any A c ps B d hs w' (hA.ext he)
  rw [← greatB_no hg] at hgr
  have hc1 := fun w' (he : Ext w w') => (clashes_all A c ps B d hs w' (hL.ext he)).mono (R' := fun e w'' => ∃ X x, e = .returned (.tuple #[.slice X (pairsR ps hs).length x, .int .i64 (checkE ps hs)]) ∧ QRow w'' X (pairsR ps hs) ∧ Ext w' w'') fun e w'' ⟨v, he, ho⟩ => by obtain ⟨X, x, rfl⟩ := ho.form; exact ⟨X, x, he, ho.row, ho.ext⟩
  have hc2 := fun w' (he : Ext w w') => (clashes_ref A c ps B d hs w' (hL.ext he)).mono (R' := fun e w'' => ∃ X x, e = .returned (.tuple #[.slice X (pairsR ps hs).length x, .int .i64 (checkE ps hs)]) ∧ QRow w'' X (pairsR ps hs) ∧ Ext w' w'') fun e w'' ⟨v, he, ho⟩ => by obtain ⟨X, x, rfl⟩ := ho.form; exact ⟨X, x, he, ho.row, ho.ext⟩
  have hpl : (pairsR ps hs).length ≤ 1000000 := by
    unfold pairsR
    split
    · rename_i h
      have h : linkP ps hs := of_decide_eq_true h
      have h4 := h.1.2
      exact Nat.le_trans (refC_len _ _ _) (Nat.le_trans (Nat.mul_le_mul h4 h4) (by omega))
    · simp
  have hsp := fun (X Y : Option Addr) (x y : Nat) (w' : World) (hX : QRow w' X (pairsR ps hs)) (hY : QRow w' Y (pairsR ps hs)) => same_pairs X Y x y (pairsR ps hs) w' hX hY hpl
  have hcl : ∃ E, ∀ w', Ext w w' → (Calls Try.prog 42 #[.agg #[.slice A ps.length c, .slice B hs.length d], .int .i64 i, .int .i64 k] w' fun e w'' => (∃ r I ic, e = .returned (.tuple #[Apr.val r I ic, .int .i64 E])) ∧ Ext w' w'') ∧ (Calls Try.prog 43 #[.agg #[.slice A ps.length c, .slice B hs.length d], .int .i64 i, .int .i64 k] w' fun e w'' => e = .returned (.int .i64 E) ∧ Ext w' w'') := by
    refine ⟨clashE ps hs i k, fun w' he => ⟨?_, clash_ref A c ps B d hs i k w' (hL.ext he)⟩⟩
    rcases two_cases ps hs i k with ⟨h1, ⟨a, b, rfl, rfl, ha, hb, hne⟩, h2⟩ | ⟨h2, h3⟩
    · rw [clashE_nat h2]
      exact (clash_good A c ps B d hs a b w' (hL.ext he) h1 ha hb hne).mono fun e w'' ⟨r, I, ic, he, _, hx, _⟩ => ⟨⟨r, I, ic, he⟩, hx⟩
    · rw [clashE, if_neg (by omega)]
      exact (clash_bad A c ps B d hs i k w' (hL.ext he) h2 h3).mono fun e w'' ⟨he, hx⟩ => ⟨⟨_, _, _, he⟩, hx⟩
  obtain ⟨E, hE⟩ := hcl
  have hk1 := fun w' he => (hE w' he).1
  have hk2 := fun w' he => (hE w' he).2
  have ha1 := fun w' (he : Ext w w') => checkapart_any A c ps B d hs i k r I ic w' (hL.ext he) (hr.ext he)
  have ha2 := fun w' (he : Ext w w') => checkapart_ref A c ps B d hs i k r I ic w' (hL.ext he) (hr.ext he)
  clear hA hB hg hL hE hpl hr
  generalize apartE ps hs i k r = F at *
  have Hgr := Lib.hid hgr
  have Hc1 := Lib.hid hc1
  have Hc2' := Lib.hid hc2
  have Hsp := Lib.hid hsp
  have Hk1 := Lib.hid hk1
  have Hk2 := Lib.hid hk2
  have Ha1' := Lib.hid ha1
  have Ha2' := Lib.hid ha2
  clear hgr hc1 hc2 hsp hk1 hk2 ha1 ha2
  generalize checkE ps hs = CE at *
  generalize pairsR ps hs = PR at *
  generalize PR.length = pn at *
  generalize ps.length = np at *
  generalize hs.length = nh at *
  obtain ⟨rc, rA, rB, rC, rE, ri⟩ := r
  have d1 : decide ((100 : Int) < (ri.length : Int)) = false := by have hm : ri.length ≤ 100 := hm; simp; omega
  have kl : Blk ((w.alloc (.cells #[.slice A np c, .slice B nh d] 25)).alloc (.cells #[.bool rc, vint rA, vint rB, vint rC, vint rE, .slice I ri.length ic] 67)) w.heap.size [.slice A np c, .slice B nh d] := (Blk.new _ _).ext ((Ext.refl _).alloc _)
  have ka : Blk ((w.alloc (.cells #[.slice A np c, .slice B nh d] 25)).alloc (.cells #[.bool rc, vint rA, vint rB, vint rC, vint rE, .slice I ri.length ic] 67)) (w.heap.size + 1) [.bool rc, vint rA, vint rB, vint rC, vint rE, .slice I ri.length ic] := Blk.new' (cs := #[.bool rc, vint rA, vint rB, vint rC, vint rE, .slice I ri.length ic]) (by simp)
  have b0 := kl.at_ 0 rfl
  have b1 := kl.at_ 1 rfl
  have a0 := ka.at_ 0 rfl
  have a1 := ka.at_ 1 rfl
  have a2 := ka.at_ 2 rfl
  have a3 := ka.at_ 3 rfl
  have a4 := ka.at_ 4 rfl
  have a5 := ka.at_ 5 rfl
  have hx0 : Ext w ((w.alloc (.cells #[.slice A np c, .slice B nh d] 25)).alloc (.cells #[.bool rc, vint rA, vint rB, vint rC, vint rE, .slice I ri.length ic] 67)) := ((Ext.refl _).alloc _).alloc _
  have Hx0 := Lib.hid hx0
  clear kl ka hx0
  go_enter Try.func6, Try.ntmps6
  go_wp2_with (first
    | (go_at_call 17; refine (Hgr.out _ Hx0.out).mono ?_; rintro e w1 ⟨rfl, hx1⟩; have hxx := Hx0.out.trans hx1; replace b0 : ∀ w', Ext w1 w' → _ := fun w' he => b0 w' (hx1.trans he); replace b1 : ∀ w', Ext w1 w' → _ := fun w' he => b1 w' (hx1.trans he); replace a0 : ∀ w', Ext w1 w' → _ := fun w' he => a0 w' (hx1.trans he); replace a1 : ∀ w', Ext w1 w' → _ := fun w' he => a1 w' (hx1.trans he); replace a2 : ∀ w', Ext w1 w' → _ := fun w' he => a2 w' (hx1.trans he); replace a3 : ∀ w', Ext w1 w' → _ := fun w' he => a3 w' (hx1.trans he); replace a4 : ∀ w', Ext w1 w' → _ := fun w' he => a4 w' (hx1.trans he); replace a5 : ∀ w', Ext w1 w' → _ := fun w' he => a5 w' (hx1.trans he))
    | (go_at_call 39; refine (Hc1.out _ hxx).mono ?_; rintro e w2 ⟨X, x, rfl, hX, hx2⟩; have hxy := hxx.trans hx2; replace b0 : ∀ w', Ext w2 w' → _ := fun w' he => b0 w' (hx2.trans he); replace b1 : ∀ w', Ext w2 w' → _ := fun w' he => b1 w' (hx2.trans he); replace a0 : ∀ w', Ext w2 w' → _ := fun w' he => a0 w' (hx2.trans he); replace a1 : ∀ w', Ext w2 w' → _ := fun w' he => a1 w' (hx2.trans he); replace a2 : ∀ w', Ext w2 w' → _ := fun w' he => a2 w' (hx2.trans he); replace a3 : ∀ w', Ext w2 w' → _ := fun w' he => a3 w' (hx2.trans he); replace a4 : ∀ w', Ext w2 w' → _ := fun w' he => a4 w' (hx2.trans he); replace a5 : ∀ w', Ext w2 w' → _ := fun w' he => a5 w' (hx2.trans he))
    | (go_at_call 40; refine (Hc2'.out _ hxy).mono ?_; rintro e w3 ⟨Y, y, rfl, hY, hx3⟩; have hxz := hxy.trans hx3; replace b0 : ∀ w', Ext w3 w' → _ := fun w' he => b0 w' (hx3.trans he); replace b1 : ∀ w', Ext w3 w' → _ := fun w' he => b1 w' (hx3.trans he); replace a0 : ∀ w', Ext w3 w' → _ := fun w' he => a0 w' (hx3.trans he); replace a1 : ∀ w', Ext w3 w' → _ := fun w' he => a1 w' (hx3.trans he); replace a2 : ∀ w', Ext w3 w' → _ := fun w' he => a2 w' (hx3.trans he); replace a3 : ∀ w', Ext w3 w' → _ := fun w' he => a3 w' (hx3.trans he); replace a4 : ∀ w', Ext w3 w' → _ := fun w' he => a4 w' (hx3.trans he); replace a5 : ∀ w', Ext w3 w' → _ := fun w' he => a5 w' (hx3.trans he))
    | (go_at_call 41; refine (Hsp.out X Y x y _ (hX.ext hx3) hY).mono ?_; rintro e w4 ⟨rfl, hx4⟩; have hx5 := hxz.trans hx4; replace b0 : ∀ w', Ext w4 w' → _ := fun w' he => b0 w' (hx4.trans he); replace b1 : ∀ w', Ext w4 w' → _ := fun w' he => b1 w' (hx4.trans he); replace a0 : ∀ w', Ext w4 w' → _ := fun w' he => a0 w' (hx4.trans he); replace a1 : ∀ w', Ext w4 w' → _ := fun w' he => a1 w' (hx4.trans he); replace a2 : ∀ w', Ext w4 w' → _ := fun w' he => a2 w' (hx4.trans he); replace a3 : ∀ w', Ext w4 w' → _ := fun w' he => a3 w' (hx4.trans he); replace a4 : ∀ w', Ext w4 w' → _ := fun w' he => a4 w' (hx4.trans he); replace a5 : ∀ w', Ext w4 w' → _ := fun w' he => a5 w' (hx4.trans he))
    | (go_at_call 42; refine (Hk1.out _ hx5).mono ?_; rintro e w5 ⟨⟨⟨qc, qA, qB, qC, qE, qi⟩, qI, qic, rfl⟩, hx6⟩; have hx7 := hx5.trans hx6; replace b0 : ∀ w', Ext w5 w' → _ := fun w' he => b0 w' (hx6.trans he); replace b1 : ∀ w', Ext w5 w' → _ := fun w' he => b1 w' (hx6.trans he); replace a0 : ∀ w', Ext w5 w' → _ := fun w' he => a0 w' (hx6.trans he); replace a1 : ∀ w', Ext w5 w' → _ := fun w' he => a1 w' (hx6.trans he); replace a2 : ∀ w', Ext w5 w' → _ := fun w' he => a2 w' (hx6.trans he); replace a3 : ∀ w', Ext w5 w' → _ := fun w' he => a3 w' (hx6.trans he); replace a4 : ∀ w', Ext w5 w' → _ := fun w' he => a4 w' (hx6.trans he); replace a5 : ∀ w', Ext w5 w' → _ := fun w' he => a5 w' (hx6.trans he)))
  have Hc2 := Lib.hid (fun w' (he : Ext w5 w') => Hk2.out w' (hx7.trans he))
  have Ha1 := Lib.hid (fun w' (he : Ext w5 w') => Ha1'.out w' (hx7.trans he))
  have Ha2 := Lib.hid (fun w' (he : Ext w5 w') => Ha2'.out w' (hx7.trans he))
  have Hx7 := Lib.hid hx7
  clear Hgr Hc1 Hc2' Hsp Hk1 Hk2 Ha1' Ha2' hX hY hx1 hx2 hx3 hx4 hx5 hx6 hx7 hxx hxy hxz Hx0
  refine wp_region_calm 20 (fun j _ v _ => (j = 4 → v = .int .i64 E) ∧ (j = 11 → v = .int .i64 F) ∧ (j = 16 → v = .int .i64 F)) (fun _ _ _ _ _ _ h => h) (by kernel_rfl) (by kernel_rfl) ?_
  simp only [List.take_succ_cons, List.take_zero, List.drop_succ_cons, List.drop_zero]
  refine calm_quiet calm_mono_final 4 (by kernel_rfl) ?_
  simp only [List.take_succ_cons, List.take_zero, List.drop_succ_cons, List.drop_zero]
  repeat (go_big_quiet_step (fail))
  refine wpQuiet_nil ?_
  refine calm_call calm_mono_final 43 #[.agg #[.slice A np c, .slice B nh d], .int .i64 i, .int .i64 k] rfl (fun w => ?_) (fun w he hF => ?_) ?_
  · go_simp
  · exact (Hc2.out w he).mono fun e w'' ⟨he', hx⟩ => ⟨_, he', hx, And.intro (fun _ => rfl) (And.intro (fun h => by cases h) (fun h => by cases h))⟩
  rintro _ _ _ ⟨h, _, _⟩
  cases h rfl
  simp only [Act.put, List.setIfInBounds_toArray, List.set_cons_succ, List.set_cons_zero]
  refine calm_quiet calm_mono_final 6 (by kernel_rfl) ?_
  simp only [List.take_succ_cons, List.take_zero, List.drop_succ_cons, List.drop_zero]
  repeat (go_big_quiet_step (fail))
  refine wpQuiet_nil ?_
  refine calm_call calm_mono_final 44 #[.agg #[.slice A np c, .slice B nh d], .int .i64 i, .int .i64 k, .agg #[.bool rc, vint rA, vint rB, vint rC, vint rE, .slice I ri.length ic]] rfl (fun w => ?_) (fun w he hF => ?_) ?_
  · go_simp
  · exact (Ha1.out w he).mono fun e w'' ⟨he', hx⟩ => ⟨_, he', hx, And.intro (fun h => by cases h) (And.intro (fun _ => rfl) (fun h => by cases h))⟩
  rintro _ _ _ ⟨_, h, _⟩
  cases h rfl
  simp only [Act.put, List.setIfInBounds_toArray, List.set_cons_succ, List.set_cons_zero]
  refine calm_quiet calm_mono_final 4 (by kernel_rfl) ?_
  simp only [List.take_succ_cons, List.take_zero, List.drop_succ_cons, List.drop_zero]
  repeat (go_big_quiet_step (fail))
  refine wpQuiet_nil ?_
  refine calm_call calm_mono_final 45 #[.agg #[.slice A np c, .slice B nh d], .int .i64 i, .int .i64 k, .agg #[.bool rc, vint rA, vint rB, vint rC, vint rE, .slice I ri.length ic]] rfl (fun w => ?_) (fun w he hF => ?_) ?_
  · go_simp
  · exact (Ha2.out w he).mono fun e w'' ⟨he', hx⟩ => ⟨_, he', hx, And.intro (fun h => by cases h) (And.intro (fun h => by cases h) (fun _ => rfl))⟩
  rintro _ _ _ ⟨_, _, h⟩
  cases h rfl
  simp only [Act.put, List.setIfInBounds_toArray, List.set_cons_succ, List.set_cons_zero]
  refine calm_quiet calm_mono_final 3 (by kernel_rfl) ?_
  simp only [List.take_succ_cons, List.take_zero, List.drop_succ_cons, List.drop_zero]
  repeat (go_big_quiet_step (fail))
  refine wpQuiet_nil ?_
  refine calm_nil fun w9 he9 _ => ?_
  go_wp2
  go_ret
  exact ⟨rfl, Hx7.out.trans he9⟩
theorem clashes_law (A : Option Addr) (c : Nat) (ps : List (List Sp)) (B : Option Addr) (d : Nat) (hs : List Hg) (i k : Int) (r : Apr) (I : Option Addr) (ic : Nat) (w : World) (hA : PnRow w A ps) (hB : HRow w B hs) (hr : AprIn w r I ic) :
    Calls Try.prog 6 #[.agg #[.slice A ps.length c, .slice B hs.length d], .int .i64 i, .int .i64 k, r.val I ic] w fun e w' => e = .returned (.bool true) ∧ Ext w w' := by
  by_cases h : greatP ps hs ∨ 100 < r.ins.length
  · exact clashes_law_out A c ps B d hs i k r I ic w hA hB h
  · exact clashes_law_in A c ps B d hs i k r I ic w hA hB hr (fun h' => h (.inl h')) (by omega)
open Go.ChangeShapes Go.WideShapes Go.ChangeAt Go.Deep
section
variable {H : Type} {enc : TypeId × Value → H} {w : World} {base : Nat} {held : Bool}
theorem ints_cap {n : Nat} {v : Value} {y : DataW H × List MemPlace} (h : DataW.trod enc Try.prog w base (fun _ => true) held n 30 [v] = some y) :
    ∃ (A : Option Addr) (c : Nat) (xs : List Int), v = .slice A xs.length c ∧ Ints w A xs ∧ xs.length ≤ c ∧ xs.length ≤ 9223372036854775807 := by
  rcases open_ints Try.underlying30 Try.underlying3 (by kernel_rfl) h with ⟨hcs, _⟩ | ⟨x, l, c, zs, hcs, _, hl, hm, hz, _, hcell, hwz⟩
  · simp at hcs
    subst hcs
    exact ⟨none, 0, [], rfl, Ints.nil _ _, by simp, by simp⟩
  · simp at hcs hz
    subst hcs
    have hlen : (zs.take l).length = l := by rw [List.length_take]; omega
    refine ⟨some x, c, zs.take l, by rw [hlen], fun k hk => ⟨x, rfl, ?_⟩, by rw [hlen]; exact hl, by rw [hlen]; unfold maxLen at hm; omega⟩
    have hk' : k < l := by rw [List.length_map, hlen] at hk; exact hk
    rw [hcell k (by omega)]
    simp [hk', List.getD]
    rw [List.getElem?_eq_getElem (by omega)]
    simp
set_option maxRecDepth 100000 in
theorem arg_aprin {r : Reach} {b0 : Nat} {v : Value} {d : DataW H} {p : List MemPlace} (hv : Value.okWide Try.prog w r b0 67 v) (h : DataW.Trod enc Try.prog w base (fun _ => true) held 67 v d p) :
    ∃ (x : Apr) (I : Option Addr) (ic : Nat), v = x.val I ic ∧ AprIn w x I ic := by
  obtain ⟨cs, n, rfl, hsz, hf⟩ := open_fields Try.underlying67 (by kernel_rfl) (by kernel_rfl) hv h
  obtain ⟨c0, c1, c2, c3, c4, c5, rfl⟩ := array6 hsz
  obtain ⟨v0, y0, e0, h0⟩ := hf 0 _ rfl
  obtain ⟨v1, y1, e1, h1⟩ := hf 1 _ rfl
  obtain ⟨v2, y2, e2, h2⟩ := hf 2 _ rfl
  obtain ⟨v3, y3, e3, h3⟩ := hf 3 _ rfl
  obtain ⟨v4, y4, e4, h4⟩ := hf 4 _ rfl
  obtain ⟨v5, y5, e5, h5⟩ := hf 5 _ rfl
  obtain ⟨b, hb, _⟩ := DataW.trod_bool Try.underlying4 h0
  obtain ⟨x1, rfl, w1⟩ := int_of h1
  obtain ⟨x2, rfl, w2⟩ := int_of h2
  obtain ⟨x3, rfl, w3⟩ := int_of h3
  obtain ⟨x4, rfl, w4⟩ := int_of h4
  obtain ⟨I, ic, xs, rfl, hi, hc, hl⟩ := ints_cap h5
  obtain rfl : v0 = .bool b := by simpa using hb
  obtain rfl : c0 = .bool b := by injection e0
  obtain rfl : c1 = .int .i64 x1 := by injection e1
  obtain rfl : c2 = .int .i64 x2 := by injection e2
  obtain rfl : c3 = .int .i64 x3 := by injection e3
  obtain rfl : c4 = .int .i64 x4 := by injection e4
  obtain rfl : c5 = .slice I xs.length ic := by injection e5
  exact ⟨⟨b, x1, x2, x3, x4, xs⟩, I, ic, rfl, hi, hc, hl⟩
end
end Go.Proofs.Yteilglljigjefaa

/- Hinges hold, panels are rigid. Plain Lean. -/
namespace Go.Proofs.Yteilglljigjefaa
theorem plc_dist (p : Ps) (a b : Sp) : ((plc p a).x - (plc p b).x) * ((plc p a).x - (plc p b).x) + ((plc p a).y - (plc p b).y) * ((plc p a).y - (plc p b).y) = (p.p * p.p + p.q * p.q) * ((a.x - b.x) * (a.x - b.x) + (a.y - b.y) * (a.y - b.y)) := by
  unfold plc; grind
theorem plc_low (p : Ps) (s : Sp) : (plc p s).x = (g5 p : Int) * (plc (low p) s).x ∧ (plc p s).y = (g5 p : Int) * (plc (low p) s).y := by
  obtain ⟨e1, e2, e3, e4, _⟩ := low_eq p
  generalize low p = r at *
  generalize (g5 p : Int) = g at *
  simp only [plc]
  rw [e1, e2, e3, e4]
  constructor <;> grind
/-- A hinge holds. -/
theorem flw_holds {p : Ps} {h : Hg} {t : Int × Int × Int} (hd : 0 < (raw p h t).d) : (plc p h.a).x * (flw p h t).d = (plc (flw p h t) h.b).x * p.d ∧ (plc p h.a).y * (flw p h t).d = (plc (flw p h t) h.b).y * p.d := by
  have hg := g5_pos hd
  obtain ⟨e1, e2⟩ := plc_low (raw p h t) h.b
  have e5 := (low_eq (raw p h t)).2.2.2.2
  have r1 : (plc (raw p h t) h.b).x = t.2.2 * (plc p h.a).x := by simp only [raw, plc]; grind
  have r2 : (plc (raw p h t) h.b).y = t.2.2 * (plc p h.a).y := by simp only [raw, plc]; grind
  have r3 : (raw p h t).d = t.2.2 * p.d := rfl
  unfold flw
  rw [r1] at e1
  rw [r2] at e2
  rw [r3] at e5
  generalize low (raw p h t) = r at *
  generalize (g5 (raw p h t) : Int) = g at *
  generalize plc p h.a = u at *
  generalize plc r h.b = v at *
  constructor <;> refine Int.eq_of_mul_eq_mul_left (a := g) (by omega) ?_
  · have : g * (u.x * r.d) = u.x * (g * r.d) := by clear e1 e2 e5; grind
    rw [this, ← e5]
    have : g * (v.x * p.d) = (g * v.x) * p.d := by clear e1 e2 e5; grind
    rw [this, ← e1]
    clear e1 e2 e5; grind
  · have : g * (u.y * r.d) = u.y * (g * r.d) := by clear e1 e2 e5; grind
    rw [this, ← e5]
    have : g * (v.y * p.d) = (g * v.y) * p.d := by clear e1 e2 e5; grind
    rw [this, ← e2]
    clear e1 e2 e5; grind
/-- The turn of the next panel is that of this one, and then the angle. -/
theorem flw_turns {p : Ps} {h : Hg} {t : Int × Int × Int} (hd : 0 < (raw p h t).d) : (flw p h t).p * t.2.2 * p.d = (t.1 * p.p - t.2.1 * p.q) * (flw p h t).d ∧ (flw p h t).q * t.2.2 * p.d = (t.2.1 * p.p + t.1 * p.q) * (flw p h t).d := by
  have hg := g5_pos hd
  obtain ⟨e1, e2, _, _, e5⟩ := low_eq (raw p h t)
  have r1 : (raw p h t).p = t.1 * p.p - t.2.1 * p.q := rfl
  have r2 : (raw p h t).q = t.2.1 * p.p + t.1 * p.q := rfl
  have r3 : (raw p h t).d = t.2.2 * p.d := rfl
  unfold flw
  rw [r1] at e1
  rw [r2] at e2
  rw [r3] at e5
  rw [e1, e2]
  generalize low (raw p h t) = r at *
  generalize (g5 (raw p h t) : Int) = g at *
  have k1 : r.p * t.2.2 * p.d = r.p * (t.2.2 * p.d) := Int.mul_assoc ..
  have k2 : r.q * t.2.2 * p.d = r.q * (t.2.2 * p.d) := Int.mul_assoc ..
  rw [k1, k2, e5]
  clear e1 e2 e5 r1 r2 r3 k1 k2
  constructor <;> grind
theorem posF_holds {hs : List Hg} (hh : ∀ h ∈ hs, hingeB h) {k : Nat} (hk : k < hs.length) : 0 < (raw (posF hs k) hs[k] (trn hs[k].ang.toNat)).d ∧ posF hs (k + 1) = flw (posF hs k) hs[k] (trn hs[k].ang.toNat) := by
  have hb := hh _ (List.getElem_mem hk)
  refine ⟨(raw_ok (posF_ok hh k (by omega)) hb (n := hs[k].ang.toNat) (by have := hb.2.2; omega)).d0, ?_⟩
  have e : hs.getD k hg0 = hs[k] := by simp [List.getD, List.getElem?_eq_getElem hk]
  rw [posF, e]
end Go.Proofs.Yteilglljigjefaa

/- Quarter turns, and a linkage from its other end. Plain Lean. -/
namespace Go.Proofs.Yteilglljigjefaa
/-! ### Quarter turns -/
def qtr (s : Sp) : Sp := ⟨-s.y, s.x⟩
def qtrP (p : Ps) : Ps := ⟨p.p, p.q, -p.y, p.x, p.d⟩
def qtrH (h : Hg) : Hg := ⟨qtr h.a, qtr h.b, h.ang⟩
theorem plc_qtr (p : Ps) (s : Sp) : plc (qtrP p) (qtr s) = qtr (plc p s) := by simp only [plc, qtrP, qtr, Sp.mk.injEq]; constructor <;> grind
theorem g5_qtr (p : Ps) : g5 (qtrP p) = g5 p := by
  unfold g5 qtrP
  simp only [Int.natAbs_neg]
  rw [Nat.gcd_assoc (Nat.gcd p.p.natAbs p.q.natAbs) p.y.natAbs, Nat.gcd_comm p.y.natAbs, ← Nat.gcd_assoc]
theorem low_qtr (p : Ps) : low (qtrP p) = qtrP (low p) := by
  have h := (low_eq p).2.2.2.1
  unfold low
  rw [g5_qtr]
  simp only [qtrP, Ps.mk.injEq, true_and, and_true]
  exact Int.neg_ediv_of_dvd ⟨_, h⟩
theorem raw_qtr (p : Ps) (h : Hg) (t : Int × Int × Int) : raw (qtrP p) (qtrH h) t = qtrP (raw p h t) := by
  simp only [raw, qtrP, qtrH, qtr, plc, Ps.mk.injEq, true_and, and_true]
  constructor <;> grind
theorem posF_qtr (hs : List Hg) : ∀ k, posF (hs.map qtrH) k = qtrP (posF hs k)
  | 0 => rfl
  | k + 1 => by
    have e : (hs.map qtrH).getD k hg0 = qtrH (hs.getD k hg0) := by
      by_cases hk : k < hs.length
      · simp [List.getD, hk]
      · simp [List.getD, hk, hg0, qtrH, qtr]
    rw [posF, posF, e, posF_qtr hs k, flw, flw, ← low_qtr, ← raw_qtr]
    rfl
theorem sideS_qtr (a b c : Sp) (d e : Int) : sideS (qtr a) (qtr b) d (qtr c) e = sideS a b d c e := by unfold sideS qtr; grind
theorem ptd_qtr {K L : Nat → Sp} {n m : Nat} {d e : Int} : Ptd (fun i => qtr (K i)) n d (fun i => qtr (L i)) m e ↔ Ptd K n d L m e := by
  unfold Ptd
  simp only [sideS_qtr]
/-! ### From the other end -/
def RelG (g N M : Ps) : Prop := M.p * (g.d * N.d) = (g.p * N.p - g.q * N.q) * M.d ∧ M.q * (g.d * N.d) = (g.q * N.p + g.p * N.q) * M.d ∧
  M.x * (g.d * N.d) = (g.p * N.x - g.q * N.y + N.d * g.x) * M.d ∧ M.y * (g.d * N.d) = (g.q * N.x + g.p * N.y + N.d * g.y) * M.d
theorem RelG.of_low {g N M : Ps} (h : RelG g N (low M)) : RelG g N M := by
  obtain ⟨e1, e2, e3, e4, e5⟩ := low_eq M
  obtain ⟨h1, h2, h3, h4⟩ := h
  refine ⟨?_, ?_, ?_, ?_⟩
  · rw [e1, e5]; grind
  · rw [e2, e5]; grind
  · rw [e3, e5]; grind
  · rw [e4, e5]; grind
theorem RelG.low {g N M : Ps} (hN : 0 < N.d) (h : RelG g N M) : RelG g (low N) M := by
  obtain ⟨e1, e2, e3, e4, e5⟩ := low_eq N
  have hg := g5_pos hN
  obtain ⟨h1, h2, h3, h4⟩ := h
  generalize Yteilglljigjefaa.low N = r at *
  generalize (g5 N : Int) = t at *
  rw [e1, e2, e5] at h1 h2
  rw [e3, e4, e5] at h3 h4
  refine ⟨?_, ?_, ?_, ?_⟩ <;> refine Int.eq_of_mul_eq_mul_left (a := t) (by omega) ?_ <;> grind
theorem RelG.step {g N M : Ps} {h : Hg} {t1 t2 r : Int} (hr : 0 < r) (ht : t1 * t1 + t2 * t2 = r * r) {m : Int} (hh : RelG g N (raw M h (t1, t2, r))) : RelG g (raw N ⟨h.b, h.a, m⟩ (t1, -t2, r)) M := by
  obtain ⟨h1, h2, h3, h4⟩ := hh
  simp only [raw, plc, Int.add_zero] at h1 h2 h3 h4
  obtain ⟨⟨ax, ay⟩, ⟨bx, bY⟩, ang⟩ := h
  simp only at h1 h2 h3 h4
  have k1 : M.p * (g.d * (r * N.d)) = (g.p * (t1 * N.p - -t2 * N.q) - g.q * (-t2 * N.p + t1 * N.q)) * M.d := by
    refine Int.eq_of_mul_eq_mul_left (a := r) (by omega) ?_
    have e1 : r * (M.p * (g.d * (r * N.d))) = (r * r) * (M.p * (g.d * N.d)) := by clear h1 h2 h3 h4 ht; grind
    have e2 : (t1 * t1 + t2 * t2) * (M.p * (g.d * N.d)) = t1 * ((t1 * M.p - t2 * M.q) * (g.d * N.d)) + t2 * ((t2 * M.p + t1 * M.q) * (g.d * N.d)) := by clear h1 h2 h3 h4 ht e1; grind
    rw [e1, ← ht, e2, h1, h2]
    clear h1 h2 h3 h4 ht e1 e2
    grind
  have k2 : M.q * (g.d * (r * N.d)) = (g.q * (t1 * N.p - -t2 * N.q) + g.p * (-t2 * N.p + t1 * N.q)) * M.d := by
    refine Int.eq_of_mul_eq_mul_left (a := r) (by omega) ?_
    have e1 : r * (M.q * (g.d * (r * N.d))) = (r * r) * (M.q * (g.d * N.d)) := by clear h1 h2 h3 h4 ht; grind
    have e2 : (t1 * t1 + t2 * t2) * (M.q * (g.d * N.d)) = t1 * ((t2 * M.p + t1 * M.q) * (g.d * N.d)) - t2 * ((t1 * M.p - t2 * M.q) * (g.d * N.d)) := by clear h1 h2 h3 h4 ht e1; grind
    rw [e1, ← ht, e2, h1, h2]
    clear h1 h2 h3 h4 ht e1 e2
    grind
  refine ⟨k1, k2, ?_, ?_⟩
  · simp only [raw, plc, Int.add_zero]
    have e : M.x * (g.d * (r * N.d)) = (r * (M.p * ax - M.q * ay + M.x) - ((t1 * M.p - t2 * M.q) * bx - (t2 * M.p + t1 * M.q) * bY)) * (g.d * N.d) - (M.p * (g.d * (r * N.d))) * ax + (M.q * (g.d * (r * N.d))) * ay + ((t1 * M.p - t2 * M.q) * (g.d * N.d)) * bx - ((t2 * M.p + t1 * M.q) * (g.d * N.d)) * bY := by clear h1 h2 h3 h4 ht k1 k2; grind
    rw [e, h3, k1, k2, h1, h2]
    clear h1 h2 h3 h4 ht k1 k2 e
    grind
  · simp only [raw, plc, Int.add_zero]
    have e : M.y * (g.d * (r * N.d)) = (r * (M.q * ax + M.p * ay + M.y) - ((t2 * M.p + t1 * M.q) * bx + (t1 * M.p - t2 * M.q) * bY)) * (g.d * N.d) - (M.q * (g.d * (r * N.d))) * ax - (M.p * (g.d * (r * N.d))) * ay + ((t2 * M.p + t1 * M.q) * (g.d * N.d)) * bx + ((t1 * M.p - t2 * M.q) * (g.d * N.d)) * bY := by clear h1 h2 h3 h4 ht k1 k2; grind
    rw [e, h4, k1, k2, h1, h2]
    clear h1 h2 h3 h4 ht k1 k2 e
    grind
theorem RelG.plc_ {g N M : Ps} (h : RelG g N M) (z : Sp) : (plc M z).x * (g.d * N.d) = (g.p * (plc N z).x - g.q * (plc N z).y + N.d * g.x) * M.d ∧ (plc M z).y * (g.d * N.d) = (g.q * (plc N z).x + g.p * (plc N z).y + N.d * g.y) * M.d := by
  obtain ⟨h1, h2, h3, h4⟩ := h
  simp only [plc]
  have e1 : (M.p * z.x - M.q * z.y + M.x) * (g.d * N.d) = (M.p * (g.d * N.d)) * z.x - (M.q * (g.d * N.d)) * z.y + M.x * (g.d * N.d) := by clear h1 h2 h3 h4; grind
  have e2 : (M.q * z.x + M.p * z.y + M.y) * (g.d * N.d) = (M.q * (g.d * N.d)) * z.x + (M.p * (g.d * N.d)) * z.y + M.y * (g.d * N.d) := by clear h1 h2 h3 h4 e1; grind
  rw [e1, e2, h1, h2, h3, h4]
  clear h1 h2 h3 h4 e1 e2
  constructor <;> grind
/-- The sides of edges are the same from the other end. -/
theorem side_alg {gp gq gd gx gy ax ay bx bY cx cy D E ax' ay' bx' bY' cx' cy' D' E' : Int} (hg : gp * gp + gq * gq = gd * gd)
    (a1 : ax' * (gd * D) = (gp * ax - gq * ay + D * gx) * D') (a2 : ay' * (gd * D) = (gq * ax + gp * ay + D * gy) * D')
    (b1 : bx' * (gd * D) = (gp * bx - gq * bY + D * gx) * D') (b2 : bY' * (gd * D) = (gq * bx + gp * bY + D * gy) * D')
    (c1 : cx' * (gd * E) = (gp * cx - gq * cy + E * gx) * E') (c2 : cy' * (gd * E) = (gq * cx + gp * cy + E * gy) * E') :
    (gd * gd * gd * D * D * E) * ((bx' - ax') * (cy' * D' - ay' * E') - (bY' - ay') * (cx' * D' - ax' * E')) = (gd * gd * gd * D' * D' * E') * ((bx - ax) * (cy * D - ay * E) - (bY - ay) * (cx * D - ax * E)) := by
  have u1 : (bx' - ax') * (gd * D) = (gp * (bx - ax) - gq * (bY - ay)) * D' := by rw [Int.sub_mul, a1, b1]; clear a1 a2 b1 b2 c1 c2 hg; grind
  have u2 : (bY' - ay') * (gd * D) = (gq * (bx - ax) + gp * (bY - ay)) * D' := by rw [Int.sub_mul, a2, b2]; clear a1 a2 b1 b2 c1 c2 hg u1; grind
  have v1 : (cx' * D' - ax' * E') * (gd * (gd * D * E)) = gd * (gp * (cx * D - ax * E) - gq * (cy * D - ay * E)) * (D' * E') := by
    have e : (cx' * D' - ax' * E') * (gd * (gd * D * E)) = (cx' * (gd * E)) * (gd * D * D') - (ax' * (gd * D)) * (gd * E * E') := by clear a1 a2 b1 b2 c1 c2 hg u1 u2; grind
    rw [e, c1, a1]
    clear a1 a2 b1 b2 c1 c2 hg u1 u2 e
    grind
  have v2 : (cy' * D' - ay' * E') * (gd * (gd * D * E)) = gd * (gq * (cx * D - ax * E) + gp * (cy * D - ay * E)) * (D' * E') := by
    have e : (cy' * D' - ay' * E') * (gd * (gd * D * E)) = (cy' * (gd * E)) * (gd * D * D') - (ay' * (gd * D)) * (gd * E * E') := by clear a1 a2 b1 b2 c1 c2 hg u1 u2 v1; grind
    rw [e, c2, a2]
    clear a1 a2 b1 b2 c1 c2 hg u1 u2 v1 e
    grind
  clear a1 a2 b1 b2 c1 c2
  generalize bx' - ax' = p1 at *
  generalize bY' - ay' = p2 at *
  generalize cx' * D' - ax' * E' = q1 at *
  generalize cy' * D' - ay' * E' = q2 at *
  generalize bx - ax = r1 at *
  generalize bY - ay = r2 at *
  generalize cx * D - ax * E = s1 at *
  generalize cy * D - ay * E = s2 at *
  have e : (gd * gd * gd * D * D * E) * (p1 * q2 - p2 * q1) = (p1 * (gd * D)) * (q2 * (gd * (gd * D * E))) - (p2 * (gd * D)) * (q1 * (gd * (gd * D * E))) := by clear u1 u2 v1 v2 hg; grind
  rw [e, u1, u2, v1, v2]
  have e2 : (gp * r1 - gq * r2) * D' * (gd * (gq * s1 + gp * s2) * (D' * E')) - (gq * r1 + gp * r2) * D' * (gd * (gp * s1 - gq * s2) * (D' * E')) = (gp * gp + gq * gq) * (gd * D' * D' * E' * (r1 * s2 - r2 * s1)) := by clear u1 u2 v1 v2 hg e; grind
  rw [e2, hg]
  clear u1 u2 v1 v2 hg e e2
  grind
theorem sign_eq {s t u v : Int} (hs : 0 < s) (ht : 0 < t) (h : s * u = t * v) : u ≤ 0 ↔ v ≤ 0 := by
  rw [← le_scl hs, h, le_scl ht]
theorem RelG.side {g N M N' M' : Ps} (hg : g.p * g.p + g.q * g.q = g.d * g.d) (g0 : 0 < g.d) (h : RelG g N M) (h' : RelG g N' M') (n0 : 0 < N.d) (m0 : 0 < M.d) (n1 : 0 < N'.d) (m1 : 0 < M'.d) (a b c : Sp) :
    sideS (plc M a) (plc M b) M.d (plc M' c) M'.d ≤ 0 ↔ sideS (plc N a) (plc N b) N.d (plc N' c) N'.d ≤ 0 := by
  refine sign_eq (s := g.d * g.d * g.d * N.d * N.d * N'.d) (t := g.d * g.d * g.d * M.d * M.d * M'.d) ?_ ?_ (side_alg hg (h.plc_ a).1 (h.plc_ a).2 (h.plc_ b).1 (h.plc_ b).2 (h'.plc_ c).1 (h'.plc_ c).2)
  · exact Int.mul_pos (Int.mul_pos (Int.mul_pos (Int.mul_pos (Int.mul_pos g0 g0) g0) n0) n0) n1
  · exact Int.mul_pos (Int.mul_pos (Int.mul_pos (Int.mul_pos (Int.mul_pos g0 g0) g0) m0) m0) m1
/-- The opposite angle. -/
def oppS (n : Nat) : Nat := ((List.range 36).find? fun m => decide (trn m = ((trn n).1, -(trn n).2.1, (trn n).2.2))).getD 0
theorem oppS_ok : ∀ n : Nat, n < 36 → oppS n < 36 ∧ trn (oppS n) = ((trn n).1, -(trn n).2.1, (trn n).2.2) := by decide +kernel
theorem trn_inj : ∀ n : Nat, n < 36 → ∀ m : Nat, m < 36 → trn n = trn m → n = m := by decide +kernel
def revH (h : Hg) : Hg := ⟨h.b, h.a, (oppS h.ang.toNat : Nat)⟩
theorem revH_ok {h : Hg} (hh : hingeB h) : hingeB (revH h) := ⟨hh.2.1, hh.1, by
  have := (oppS_ok h.ang.toNat (by have := hh.2.2; omega)).1
  simp only [revH]
  omega⟩
theorem rev_rel {hs : List Hg} (hh : ∀ h ∈ hs, hingeB h) : ∀ i, i ≤ hs.length → RelG (posF hs hs.length) (posF (hs.reverse.map revH) i) (posF hs (hs.length - i))
  | 0, _ => by
    refine ⟨?_, ?_, ?_, ?_⟩ <;> simp [posF, pose0, Int.mul_comm]
  | i + 1, hi => by
    have ih := rev_rel hh i (by omega)
    obtain ⟨j, hj⟩ : ∃ j, hs.length - i = j + 1 := ⟨hs.length - i - 1, by omega⟩
    rw [show hs.length - (i + 1) = j by omega]
    rw [hj] at ih
    have hjl : j < hs.length := by omega
    have e : hs.getD j hg0 = hs[j] := by simp [List.getD, List.getElem?_eq_getElem hjl]
    have e2 : (hs.reverse.map revH).getD i hg0 = revH hs[j] := by
      simp only [List.getD, List.getElem?_map]
      rw [List.getElem?_reverse (by omega), List.getElem?_eq_getElem (by omega)]
      simp only [Option.map_some, Option.getD_some]
      congr 2
      omega
    have hb := hh _ (List.getElem_mem hjl)
    have hn : hs[j].ang.toNat < 36 := by have := hb.2.2; omega
    have o1 := posF_ok hh j (by omega)
    have o2 := posF_ok (hs := hs.reverse.map revH) (fun h hm => by
      obtain ⟨h', hm', rfl⟩ := List.mem_map.1 hm
      exact revH_ok (hh _ (List.mem_reverse.1 hm'))) i (by simp; omega)
    have hto := turns_ok _ hn
    rw [posF, e, flw] at ih
    rw [posF, e2, flw]
    refine RelG.low ?_ ?_
    · have := (raw_ok o2 (revH_ok hb) (n := (revH hs[j]).ang.toNat) (by simp only [revH, Int.toNat_natCast]; exact (oppS_ok _ hn).1)).d0
      exact this
    · have hs1 := ih.of_low
      have e3 : trn (revH hs[j]).ang.toNat = ((trn hs[j].ang.toNat).1, -(trn hs[j].ang.toNat).2.1, (trn hs[j].ang.toNat).2.2) := by
        simp only [revH, Int.toNat_natCast]
        exact (oppS_ok _ hn).2
      rw [e3]
      exact RelG.step (by omega) hto.2.2 hs1
end Go.Proofs.Yteilglljigjefaa

/- The reference's Bent: a linkage with one other angle. -/
namespace Go.Proofs.Yteilglljigjefaa
open Go.RowKit
set_option maxRecDepth 100000 in
set_option maxHeartbeats 8000000 in
theorem bent_any (A : Option Addr) (c : Nat) (ps : List (List Sp)) (B : Option Addr) (d : Nat) (hs : List Hg) (k : Nat) (n : Int) (w : World) (hL : Lk w A ps B hs) (hk : k < hs.length) :
    Calls Try.prog 71 #[.agg #[.slice A ps.length c, .slice B hs.length d], .int .i64 k, .int .i64 n] w fun e w' => ∃ B1 d1, e = .returned (.agg #[.slice A ps.length c, .slice B1 hs.length d1]) ∧ OwnH w w' (.slice B1 hs.length d1) (setAng hs k n) := by
  have hwi := fun (w2 : World) (he : Ext w w2) => (with_any A c ps B d hs w2 (hL.ext he)).mono (R' := fun e w' => ∃ B1 d1, e = .returned (.agg #[.slice A ps.length c, .slice B1 hs.length d1]) ∧ Own w2 w' 85 5 (.slice B1 hs.length d1) hs.length (hs.map Hg.cells).flatten) fun e w' h => h
  have hF := Hg.cells_len hs
  have hFs := setAng_cells hs k n hk
  unfold OwnH
  rw [setAng_len, ← hFs]
  clear hFs
  have Hwi := Lib.hid hwi
  clear hwi hL
  generalize (hs.map Hg.cells).flatten = F at *
  generalize ps.length = np at *
  generalize hs.length = nh at *
  have kl : Blk ((w.alloc (.cells #[.slice A np c, .slice B nh d] 25)).alloc (.cells #[.slice none 0 0, .slice none 0 0] 25)) w.heap.size [.slice A np c, .slice B nh d] := (Blk.new _ _).ext ((Ext.refl _).alloc _)
  have kz : Whole ((w.alloc (.cells #[.slice A np c, .slice B nh d] 25)).alloc (.cells #[.slice none 0 0, .slice none 0 0] 25)) (w.heap.size + 1) #[.slice none 0 0, .slice none 0 0] 25 := Whole.new (by simp)
  have b0 := kl.at_ 0 rfl
  have b1 := kl.at_ 1 rfl
  have hx0 : Ext w ((w.alloc (.cells #[.slice A np c, .slice B nh d] 25)).alloc (.cells #[.slice none 0 0, .slice none 0 0] 25)) := ((Ext.refl _).alloc _).alloc _
  have Hx0 := Lib.hid hx0
  have Kz := Lib.hid kz
  clear kl kz hx0
  go_enter Try.func71, Try.ntmps71
  have hkk : k * 5 + 4 < F.length := by omega
  have hx4 : ∃ x4, F[k * 5 + 4]? = some x4 := ⟨_, List.getElem?_eq_getElem hkk⟩
  obtain ⟨x4, hx4⟩ := hx4
  have Hx4 := Lib.hid hx4
  clear hx4 hkk hF
  have hpos : 0 < nh := by omega
  have hkn : (k : Int) < (nh : Int) := by omega
  go_wp2_with (go_at_call 91; refine (Hwi.out _ Hx0.out).mono ?_; rintro e w1 ⟨B1, d1, rfl, h1⟩; obtain ⟨g, c', ev, hg1, hg2⟩ := h1.at_ hpos; cases ev; have hS := (Whole.new (w := w1) (cs := #[.slice A np c, .slice (some ⟨g, 0, none⟩) nh d1]) (t := 25) rfl); have o0 := hS.cell 0 rfl; have o1 := hS.cell 1 rfl; have hown := h1.alloc (.cells #[.slice A np c, .slice (some ⟨g, 0, none⟩) nh d1] 25); have y4 := (hown.cell (j := k * 5 + 4) (List.getElem?_eq_some_iff.1 Hx4.out).1).trans Hx4.out; have yf := hown.free (k * 5 + 4); have hS5 := hS.farCell (show w1.heap.size ≠ g by omega) (k * 5 + 4) (.int .i64 n); have p0 := hS5.cell 0 rfl; have p1 := hS5.cell 1 rfl; have hK5 := (Whole.ext Kz.out (h1.ext.alloc (.cells #[.slice A np c, .slice (some ⟨g, 0, none⟩) nh d1] 25))).farCell (show w.heap.size + 1 ≠ g by have h1 := (Array.getElem?_eq_some_iff.1 Kz.out.h).1; omega) (k * 5 + 4) (.int .i64 n); have z0 := hK5.cell 0 rfl; have z1 := hK5.cell 1 rfl; have zf := hK5.free; have hfin := (hown.store (k * 5 + 4) (.int .i64 n)).since Hx0.out; have H5 := Lib.hid (And.intro hK5 hfin); clear hS hown hS5 hK5 hfin h1 b0 b1 hg1 hg2)
  obtain ⟨hK, hh⟩ := H5.out
  have hge1 : w.heap.size ≤ w.heap.size + 1 := by omega
  have hh5 := (hh.other (p := ⟨w.heap.size + 1, 0, none⟩) hge1 (hh.ne_whole hK (by decide)) (.slice A np c)).other (p := ⟨w.heap.size + 1, 1, none⟩) hge1 (hh.ne_whole hK (by decide)) (.slice (some ⟨g, 0, none⟩) nh d1)
  have hK5 := ((hK.setCell 0 (.slice A np c)).setCell 1 (.slice (some ⟨g, 0, none⟩) nh d1)).blk
  refine bodyPost_ret (results_link rfl _ _ rfl hK5) rfl ?_
  exact ⟨_, _, rfl, hh5⟩
end Go.Proofs.Yteilglljigjefaa

/- Swings: the reference's and the code's. -/
namespace Go.Proofs.Yteilglljigjefaa
open Go.RowKit
/-- The angles for which nothing clashes. -/
def swF (ps : List (List Sp)) (hs : List Hg) (k n : Nat) : Bool := decide (refC (clF ps (setAng hs k n)) ps.length ps.length = [])
def swL (ps : List (List Sp)) (hs : List Hg) (k m : Nat) : List Int := ((List.range m).filter (swF ps hs k)).map fun (n : Nat) => (n : Int)
theorem swL_succ (ps : List (List Sp)) (hs : List Hg) (k m : Nat) : swL ps hs k (m + 1) = swL ps hs k m ++ (bif swF ps hs k m then [(m : Int)] else []) := by
  unfold swL
  rw [List.range_succ, List.filter_append, List.map_append]
  congr 1
  cases h : swF ps hs k m <;> simp [h]
theorem swL_len (ps : List (List Sp)) (hs : List Hg) (k : Nat) : ∀ m, (swL ps hs k m).length ≤ m := fun m => by
  unfold swL
  rw [List.length_map]
  exact Nat.le_trans (List.length_filter_le _ _) (by simp)
theorem swF_len {ps : List (List Sp)} {hs : List Hg} {k n : Nat} : ((((refC (clF ps (setAng hs k n)) ps.length ps.length).length : Nat) : Int) == 0) = swF ps hs k n := by
  unfold swF
  cases refC (clF ps (setAng hs k n)) ps.length ps.length <;> simp
  omega
def inH (hs : List Hg) (x : Int) : Prop := 0 ≤ x ∧ x < (hs.length : Int)
instance (hs : List Hg) (x : Int) : Decidable (inH hs x) := by unfold inH; infer_instance
def swE (ps : List (List Sp)) (hs : List Hg) (x : Int) : Int := if linkB ps hs = true then (if inH hs x then 0 else 2) else 50
def swR (ps : List (List Sp)) (hs : List Hg) (x : Int) : List Int := if linkB ps hs = true then (if inH hs x then swL ps hs x.toNat 36 else []) else []
theorem swE_cases (ps : List (List Sp)) (hs : List Hg) (x : Int) : (∃ k : Nat, x = (k : Int) ∧ k < hs.length ∧ linkP ps hs ∧ swE ps hs x = 0 ∧ swR ps hs x = swL ps hs k 36) ∨ (linkP ps hs ∧ (x < 0 ∨ (hs.length : Int) ≤ x) ∧ swE ps hs x = 2 ∧ swR ps hs x = []) ∨ (¬ linkP ps hs ∧ swE ps hs x = 50 ∧ swR ps hs x = []) := by
  unfold swE swR
  rcases linkB_eq (ps := ps) (hs := hs) with ⟨h1, h2, _⟩ | ⟨h1, h2, _⟩
  · rw [h2, if_pos rfl, if_pos rfl]
    by_cases h : inH hs x
    · rw [if_pos h, if_pos h]
      obtain ⟨h3, h4⟩ := h
      exact .inl ⟨x.toNat, by omega, by omega, h1, rfl, rfl⟩
    · rw [if_neg h, if_neg h]
      unfold inH at h
      exact .inr (.inl ⟨h1, by omega, rfl, rfl⟩)
  · rw [h2, if_neg (by simp), if_neg (by simp)]
    exact .inr (.inr ⟨h1, rfl, rfl⟩)
set_option maxRecDepth 100000 in
set_option maxHeartbeats 16000000 in
theorem swings_good (A : Option Addr) (c : Nat) (ps : List (List Sp)) (B : Option Addr) (d : Nat) (hs : List Hg) (k : Nat) (w : World) (hL : Lk w A ps B hs) (hl : linkP ps hs) (hk : k < hs.length) :
    Calls Try.prog 37 #[.agg #[.slice A ps.length c, .slice B hs.length d], .int .i64 k] w fun e w' => ∃ v, e = .returned (.tuple #[v, .int .i64 0]) ∧ OwnI w w' v (swL ps hs k 36) := by
  have hck := fun w' (he : Ext w w') => (hL.ext he).check c d
  rw [show checkE ps hs = 0 by rcases linkB_eq (ps := ps) (hs := hs) with ⟨_, _, h⟩ | ⟨h, _⟩; exact h; exact absurd hl h] at hck
  have hcl := fun (n : Nat) (hn : n < 36) (w2 : World) (he : Ext w w2) (B1 : Option Addr) (d1 : Nat) (ho : HRow w2 B1 (setAng hs k n)) => (clashes_any A c ps B1 d1 (setAng hs k n) w2 ⟨hL.hA.ext he, ho, hL.np, by rw [setAng_len]; exact hL.nh, hL.hp⟩ (setAng_link hl hk hn)).mono (R' := fun e w' => ∃ X x, e = .returned (.slice X (refC (clF ps (setAng hs k n)) ps.length ps.length).length x) ∧ Ext w2 w') fun e w' ⟨v, he, ho⟩ => by obtain ⟨X, x, rfl⟩ := ho.form; exact ⟨X, x, he, ho.ext⟩
  simp only [setAng_len] at hcl
  have hcn := fun w' (he : Ext w w') => (clone_hinges B d hs w' (hL.hB.ext he) hL.nh (by omega)).mono (R' := fun e w'' => ∃ g c', e = .returned (.slice (some ⟨g, 0, none⟩) hs.length c') ∧ Own w' w'' 85 5 (.slice (some ⟨g, 0, none⟩) hs.length c') hs.length (hs.map Hg.cells).flatten) fun e w'' ⟨v, he, ho⟩ => by
    obtain ⟨g, c', ev, _, _⟩ := Own.at_ ho (by omega)
    subst ev
    exact ⟨g, c', he, ho⟩
  have hsw := fun n => swF_len (ps := ps) (hs := hs) (k := k) (n := n)
  have hss := fun n => swL_succ ps hs k n
  have hsl := fun n => swL_len ps hs k n
  have hce := fun (hs' : List Hg) (hl' : hs'.length = hs.length) (he : ∀ n, setAng hs' k n = setAng hs k n) (n : Int) => (setAng_cells hs' k n (by omega)).trans (congrArg (fun l => (List.map Hg.cells l).flatten) (he n))
  have hse := fun (n : Int) (m : Int) => setAng_set hk n m
  have hsn := fun (n : Int) => setAng_len hs k n
  have h0 : swL ps hs k 0 = [] := rfl
  have hpos : 0 < hs.length := by omega
  obtain ⟨L, hLd⟩ : ∃ L : Nat → Nat, L = fun (n : Nat) => (refC (clF ps (setAng hs k n)) ps.length ps.length).length := ⟨_, rfl⟩
  have e : ∀ n : Nat, (refC (clF ps (setAng hs k n)) ps.length ps.length).length = L n := fun n => by rw [hLd]
  simp only [e] at hcl hsw
  clear e hLd hL hl
  have Hck := Lib.hid hck
  have Hcl := Lib.hid hcl
  have Hcn := Lib.hid hcn
  have Hsw := Lib.hid hsw
  have Hss := Lib.hid hss
  have Hsl := Lib.hid hsl
  have Hce := Lib.hid hce
  have Hse := Lib.hid hse
  have Hsn := Lib.hid hsn
  have H0 := Lib.hid h0
  clear hck hcl hcn hsw hss hsl hce hse hsn h0
  generalize swF ps hs k = S at *
  generalize swL ps hs k = SL at *
  generalize ps.length = np at *
  generalize hnh : hs.length = nh at *
  have Hnh := Lib.hid hnh
  clear hnh
  have hkn : (k : Int) < (nh : Int) := by omega
  have hkz : (0 : Int) ≤ (k : Int) := by omega
  have kb : Whole (w.alloc (.cells #[.slice A np c, .slice B nh d] 25)) w.heap.size #[.slice A np c, .slice B nh d] 25 := Whole.new rfl
  have b0 := kb.blk.at_ 0 rfl
  have b1 := kb.blk.at_ 1 rfl
  have bf := kb.blk.free
  have hx0 : Ext w (w.alloc (.cells #[.slice A np c, .slice B nh d] 25)) := (Ext.refl _).alloc _
  have Hx0 := Lib.hid hx0
  have Kb := Lib.hid kb
  clear kb hx0
  go_enter Try.func37, Try.ntmps37
  go_wp2_with (first
    | (go_at_call 30; refine (Hck.out _ Hx0.out).mono ?_; rintro e w1 ⟨rfl, hx1⟩; have hxx := Hx0.out.trans hx1; replace b0 : ∀ w', Ext w1 w' → _ := fun w' he => b0 w' (hx1.trans he); replace b1 : ∀ w', Ext w1 w' → _ := fun w' he => b1 w' (hx1.trans he); replace bf : ∀ (j : Nat) w', Ext w1 w' → _ := fun j w' he => bf j w' (hx1.trans he))
    | (go_at_call 69; refine (Hcn.out _ hxx).mono ?_; rintro e w2 ⟨g, c', rfl, ho2⟩; have hx2 := ho2.ext; replace b0 : ∀ w', Ext w2 w' → _ := fun w' he => b0 w' (hx2.trans he); replace b1 : ∀ w', Ext w2 w' → _ := fun w' he => b1 w' (hx2.trans he); replace bf : ∀ (j : Nat) w', Ext w2 w' → _ := fun j w' he => bf j w' (hx2.trans he)))
  have hxw : Ext w w2 := hxx.trans hx2
  have hK := Whole.ext Kb.out (hx1.trans hx2)
  have hH2 := ho2.since hxx
  have hS0 := hK.setCell 1 (.slice (some ⟨g, 0, none⟩) nh c')
  have hH0 := hH2.other (p := ⟨w.heap.size, 1, none⟩) (Nat.le_refl _) (hH2.ne_whole hK (by decide)) (.slice (some ⟨g, 0, none⟩) nh c')
  have hI0 : Own w (w2.setCell ⟨w.heap.size, 1, none⟩ (.slice (some ⟨g, 0, none⟩) nh c')) 3 1 (.slice none 0 0) (SL 0).length ((SL 0).map vint) := by rw [H0.out]; exact Own.nil' hH0.ext _ _
  have hgw : w.heap.size < g := by
    have h1 := ho2.ge
    have h2 := (Array.getElem?_eq_some_iff.1 (Whole.ext Kb.out hx1).h).1
    omega
  have Hgw := Lib.hid hgw
  generalize (w2.setCell ⟨w.heap.size, 1, none⟩ (.slice (some ⟨g, 0, none⟩) nh c')) = W2 at *
  clear hxw hK hH2 b0 b1 bf Hck Hcn Kb hx1 hx2 ho2 hxx H0 hgw
  go_loopw [27, 7] (fun i v wr => ∃ (m : Nat) (hs' : List Hg), m ≤ 36 ∧ i = .int .i64 m ∧ hs'.length = nh ∧ Hid (∀ n, setAng hs' k n = setAng hs k n) ∧ Whole wr w.heap.size #[.slice A np c, .slice (some ⟨g, 0, none⟩) nh c'] 25 ∧ Own w wr 85 5 (.slice (some ⟨g, 0, none⟩) nh c') nh (hs'.map Hg.cells).flatten ∧ Own w wr 3 1 v (SL m).length ((SL m).map vint)) (fun i _ _ => 36 - (intOf i).toNat)
  case atStart => exact ⟨0, hs, by omega, rfl, Hnh.out, Lib.hid fun _ => rfl, hS0, hH0, hI0⟩
  case round =>
    clear hS0 hH0 hI0
    obtain ⟨m, hs', hm, rfl, hl', he', hS, hH, hI⟩ := hrel
    by_cases ht : m < 36
    · have ht2 : (m : Int) < 36 := by omega
      obtain ⟨Y, y, rfl⟩ := hI.form
      have hgw := Hgw.out
      have s0 := hS.cell 0 rfl
      have s1 := hS.cell 1 rfl
      have hlen := Hg.cells_len hs'
      obtain ⟨x4, hx4⟩ : ∃ x4, ((hs'.map Hg.cells).flatten)[k * 5 + 4]? = some x4 := ⟨_, List.getElem?_eq_getElem (by omega)⟩
      have y4 := (hH.cell (j := k * 5 + 4) (by omega)).trans hx4
      have yf := hH.free (k * 5 + 4)
      have hS5 := hS.farCell (show w.heap.size ≠ g by omega) (k * 5 + 4) (.int .i64 m)
      have p0 := hS5.cell 0 rfl
      have p1 := hS5.cell 1 rfl
      have hgg : w.heap.size ≤ g := by omega
      have hH5 := hH.store (k * 5 + 4) (.int .i64 m)
      rw [Hce.out hs' hl' he'.out m] at hH5
      have hI5 := hI.other (p := ⟨g, k * 5 + 4, none⟩) hgg (fun e => hI.ne_own hH (by decide) rfl e) (.int .i64 m)
      have hcl := Hcl.out m ht (wr.setCell ⟨g, k * 5 + 4, none⟩ (.int .i64 m)) hH5.ext _ c' hH5.row
      have hsw := Hsw.out m
      have hss := Hss.out m
      have hsl := Hsl.out m
      have H5 := Lib.hid (And.intro hS5 (And.intro hH5 hI5))
      have Hcl' := Lib.hid hcl
      clear hcl Hcl Hsw Hss hS hH hI hS5 hH5 hI5 hx4 he' hgw hgg hlen
      cases hSm : S m with
      | false =>
        rw [hSm] at hsw hss
        have Hss := Lib.hid hss
        clear hss hSm
        generalize hN : (SL m).length = N at *
        have hN := Lib.hid hN
        generalize L m = M at *
        go_wp2_with (go_at_call 70; refine Hcl'.out.mono ?_; rintro e w5 ⟨X, x, rfl, hx5⟩; clear p0 p1)
        obtain ⟨hS5, hH5, hI5⟩ := H5.out
        go_roundw
        case rel =>
          refine ⟨m + 1, setAng hs k m, by omega, by go_num, Hsn.out _, Lib.hid (fun n => Hse.out _ _), hS5.ext hx5, hH5.later hx5, ?_⟩
          rw [Hss.out]
          have h6 := hI5.later hx5
          simp only [cond_false, List.append_nil]
          rw [hN.out]
          exact h6
        case measure => simp [intOf]; omega
      | true =>
        rw [hSm] at hsw hss
        have Hss := Lib.hid hss
        clear hss hSm
        generalize hN : (SL m).length = N at *
        have hN := Lib.hid hN
        generalize L m = M at *
        go_wp2_with (first
          | (go_at_call 70; refine Hcl'.out.mono ?_; rintro e w5 ⟨X, x, rfl, hx5⟩; clear p0 p1; have hI6 := ((H5.out.2.2.later hx5).alloc (.cells #[.int .i64 m] 3)); have hr6 : Row (w5.alloc (.cells #[.int .i64 m] 3)) (some ⟨w5.heap.size, 0, none⟩) [vint m] := row_heap (heap_alloc_new _ _))
          | (refine own_append_src (w1 := w) int_elem rfl _ _ 30 rfl Try.underlying30 _ N _ rfl hI6 _ 1 1 _ rfl rfl hr6 (by intro u hu; simp at hu; subst hu; rfl) (by omega) (by unfold maxLen; omega) ?_; intro v' w6 ho6 hg6))
        obtain ⟨hS5, hH5, hI5⟩ := H5.out
        go_roundw
        case rel =>
          refine ⟨m + 1, setAng hs k m, by omega, by go_num, Hsn.out _, Lib.hid (fun n => Hse.out _ _), ((hS5.ext hx5).ext ((Ext.refl _).alloc _)).grown hg6 (fun e => hI5.ne_whole hS5 (by decide) e.symm), ((hH5.later hx5).alloc _).grown hg6 ho6.ext (fun g e1 e2 => hH5.ne_own hI5 (by decide) e2.symm e1), ?_⟩
          rw [Hss.out]
          rw [← hN.out] at ho6
          simpa using ho6
        case measure => simp [intOf]; omega
    · obtain rfl : m = 36 := by omega
      have HI := Lib.hid hI
      clear hI hH hS Hcl Hsw Hss
      generalize hN : (SL 36).length = N at *
      have hN := Lib.hid hN
      go_wp2
      go_ret2
      exact ⟨_, rfl, by show Own _ _ _ _ _ (SL 36).length _; rw [hN.out]; exact HI.out⟩
end Go.Proofs.Yteilglljigjefaa

/- The reference's Swings. -/
namespace Go.Proofs.Yteilglljigjefaa
open Go.RowKit
set_option maxRecDepth 100000 in
set_option maxHeartbeats 16000000 in
theorem swings_ref_good (A : Option Addr) (c : Nat) (ps : List (List Sp)) (B : Option Addr) (d : Nat) (hs : List Hg) (k : Nat) (w : World) (hL : Lk w A ps B hs) (hl : linkP ps hs) (hk : k < hs.length) :
    Calls Try.prog 38 #[.agg #[.slice A ps.length c, .slice B hs.length d], .int .i64 k] w fun e w' => ∃ v, e = .returned (.tuple #[v, .int .i64 0]) ∧ OwnI w w' v (swL ps hs k 36) := by
  have hck := fun w' (he : Ext w w') => (hL.ext he).valid c d
  have hlb : ∀ hs', linkP ps hs' → linkB ps hs' = true ∧ checkE ps hs' = 0 := fun hs' h => by
    rcases linkB_eq (ps := ps) (hs := hs') with ⟨_, h1, h2⟩ | ⟨h1, _⟩
    · exact ⟨h1, h2⟩
    · exact absurd h h1
  rw [(hlb hs hl).1] at hck
  have hcl := fun (n : Nat) (hn : n < 36) (w2 : World) (he : Ext w w2) (B1 : Option Addr) (d1 : Nat) (ho : HRow w2 B1 (setAng hs k n)) => (clashes_ref A c ps B1 d1 (setAng hs k n) w2 ⟨hL.hA.ext he, ho, hL.np, by rw [setAng_len]; exact hL.nh, hL.hp⟩).mono (R' := fun e w' => ∃ X x, e = .returned (.tuple #[.slice X (refC (clF ps (setAng hs k n)) ps.length ps.length).length x, .int .i64 0]) ∧ Ext w2 w') fun e w' ⟨v, he, ho⟩ => by
    have h2 := hlb _ (setAng_link hl hk hn)
    unfold pairsR at ho
    rw [if_pos h2.1] at ho
    rw [h2.2] at he
    obtain ⟨X, x, rfl⟩ := ho.form
    exact ⟨X, x, he, ho.ext⟩
  have hbe := fun (n : Nat) (w2 : World) (he : Ext w w2) => (bent_any A c ps B d hs k n w2 (hL.ext he) hk).mono (R' := fun e w' => ∃ B1 d1, e = .returned (.agg #[.slice A ps.length c, .slice B1 hs.length d1]) ∧ HRow w' B1 (setAng hs k n) ∧ Ext w2 w') fun e w' ⟨B1, d1, he, ho⟩ => ⟨B1, d1, he, OwnH.row ho, ho.ext⟩
  simp only [setAng_len] at hcl
  have hsw := fun n => swF_len (ps := ps) (hs := hs) (k := k) (n := n)
  have hss := fun n => swL_succ ps hs k n
  have hsl := fun n => swL_len ps hs k n
  have h0 : swL ps hs k 0 = [] := rfl
  obtain ⟨L, hLd⟩ : ∃ L : Nat → Nat, L = fun (n : Nat) => (refC (clF ps (setAng hs k n)) ps.length ps.length).length := ⟨_, rfl⟩
  have e : ∀ n : Nat, (refC (clF ps (setAng hs k n)) ps.length ps.length).length = L n := fun n => by rw [hLd]
  simp only [e] at hcl hsw
  have hwi : withinB (k : Int) 0 ((hs.length : Int) - 1) = true := by rw [withinB_true]; omega
  have hww : IntKind.i64.wrap ((hs.length : Int) - 1) = (hs.length : Int) - 1 := by have := hL.nh; rw [IntKind.wrap_i64]; omega
  clear e hLd hL hl hlb
  have Hck := Lib.hid hck
  have Hcl := Lib.hid hcl
  have Hbe := Lib.hid hbe
  have Hsw := Lib.hid hsw
  have Hss := Lib.hid hss
  have Hsl := Lib.hid hsl
  have H0 := Lib.hid h0
  have Hwi := Lib.hid hwi
  clear hck hcl hbe hsw hss hsl h0 hwi
  generalize (setAng hs k) = F at *
  generalize swF ps hs k = S at *
  generalize swL ps hs k = SL at *
  generalize ps.length = np at *
  generalize hs.length = nh at *
  have kb : Blk (w.alloc (.cells #[.slice A np c, .slice B nh d] 25)) w.heap.size [.slice A np c, .slice B nh d] := Blk.new _ _
  have b0 := kb.at_ 0 rfl
  have b1 := kb.at_ 1 rfl
  have hx0 : Ext w (w.alloc (.cells #[.slice A np c, .slice B nh d] 25)) := (Ext.refl _).alloc _
  have Hx0 := Lib.hid hx0
  clear kb hx0
  go_enter Try.func38, Try.ntmps38
  go_wp2_with (first
    | (go_at_call 65; refine (Hck.out _ Hx0.out).mono ?_; rintro e w1 ⟨rfl, hx1⟩; have hxx := Hx0.out.trans hx1; replace b0 : ∀ w', Ext w1 w' → _ := fun w' he => b0 w' (hx1.trans he); replace b1 : ∀ w', Ext w1 w' → _ := fun w' he => b1 w' (hx1.trans he))
    | (go_at_call 58; refine (within_any _ _ _ _).mono ?_; rw [Hwi.out]; rintro e w' ⟨rfl, rfl⟩))
  have hI0 : Own w1 w1 3 1 (.slice none 0 0) (SL 0).length ((SL 0).map vint) := by rw [H0.out]; exact Own.nil' (Ext.refl _) _ _
  go_loopw [7, 6] (fun i v wr => ∃ m : Nat, m ≤ 36 ∧ i = .int .i64 m ∧ Own w1 wr 3 1 v (SL m).length ((SL m).map vint)) (fun i _ _ => 36 - (intOf i).toNat)
  case atStart => exact ⟨0, by omega, rfl, hI0⟩
  case round =>
    clear hI0
    obtain ⟨m, hm, rfl, hI⟩ := hrel
    have hxr := hI.ext
    by_cases ht : m < 36
    · have ht2 : (m : Int) < 36 := by omega
      obtain ⟨Y, y, rfl⟩ := hI.form
      have c0 : ∀ w', Ext wr w' → _ := fun w' he => b0 w' (hxr.trans he)
      have c1 : ∀ w', Ext wr w' → _ := fun w' he => b1 w' (hxr.trans he)
      have HI := Lib.hid hI
      have Hxr := Lib.hid hxr
      have hcl := Hcl.out m ht
      have hbe := Hbe.out m wr (hxx.trans hxr)
      have hsw := Hsw.out m
      have hss := Hss.out m
      have hsl := Hsl.out m
      clear hI hxr Hcl Hbe Hsw Hss b0 b1
      have Hcl := Lib.hid hcl
      have Hbe := Lib.hid hbe
      clear hcl hbe
      cases hS : S m with
      | false =>
        rw [hS] at hsw hss
        have Hss := Lib.hid hss
        clear hss hS
        generalize hN : (SL m).length = N at *
        have hN := Lib.hid hN
        generalize L m = M at *
        go_wp2_with (first
          | (go_at_call 71; refine Hbe.out.mono ?_; rintro e w3 ⟨B1, d1, rfl, ho3, hx3⟩; have hx3' := (hxx.trans Hxr.out).trans hx3)
          | (go_at_call 40; refine (Hcl.out _ hx3' _ _ ho3).mono ?_; rintro e w4 ⟨X, x, rfl, hx4⟩))
        go_roundw
        case rel =>
          refine ⟨m + 1, by omega, by go_num, ?_⟩
          rw [Hss.out]
          simp only [cond_false, List.append_nil]
          rw [hN.out]
          exact (HI.out.later hx3).later hx4
        case measure => simp [intOf]; omega
      | true =>
        rw [hS] at hsw hss
        have Hss := Lib.hid hss
        clear hss hS
        generalize hN : (SL m).length = N at *
        have hN := Lib.hid hN
        generalize L m = M at *
        go_wp2_with (first
          | (go_at_call 71; refine Hbe.out.mono ?_; rintro e w3 ⟨B1, d1, rfl, ho3, hx3⟩; have hx3' := (hxx.trans Hxr.out).trans hx3)
          | (go_at_call 40; refine (Hcl.out _ hx3' _ _ ho3).mono ?_; rintro e w4 ⟨X, x, rfl, hx4⟩; have hI4 := (HI.out.later hx3).later hx4)
          | (at_builtin; refine own_append_int (w1 := w1) rfl _ _ rfl _ N _ rfl hI4 m rfl (by omega) ?_; intro v' w5 h5))
        go_roundw
        case rel =>
          refine ⟨m + 1, by omega, by go_num, ?_⟩
          rw [Hss.out]
          rw [← hN.out] at h5
          simpa using h5
        case measure => simp [intOf]; omega
    · obtain rfl : m = 36 := by omega
      have HI := Lib.hid hI
      clear hI Hcl Hbe Hsw Hss
      generalize hN : (SL 36).length = N at *
      have hN := Lib.hid hN
      go_wp2
      go_ret2
      exact ⟨_, rfl, by show Own _ _ _ _ _ (SL 36).length _; rw [hN.out]; exact HI.out.since hxx⟩
end Go.Proofs.Yteilglljigjefaa

/- Swings of any linkage: by both. -/
namespace Go.Proofs.Yteilglljigjefaa
open Go.RowKit
set_option maxRecDepth 100000 in
set_option maxHeartbeats 8000000 in
theorem swings_any (A : Option Addr) (c : Nat) (ps : List (List Sp)) (B : Option Addr) (d : Nat) (hs : List Hg) (x : Int) (w : World) (hL : Lk w A ps B hs) :
    Calls Try.prog 37 #[.agg #[.slice A ps.length c, .slice B hs.length d], .int .i64 x] w fun e w' => ∃ v, e = .returned (.tuple #[v, .int .i64 (swE ps hs x)]) ∧ OwnI w w' v (swR ps hs x) := by
  have hck := fun w' (he : Ext w w') => (hL.ext he).check c d
  rcases swE_cases ps hs x with ⟨k, rfl, h1, h2, h3, h4⟩ | ⟨h1, h2, h3, h4⟩ | ⟨h1, h3, h4⟩
  · rw [h3, h4]
    exact swings_good A c ps B d hs k w hL h2 h1
  · rw [h3, h4]
    rcases linkB_eq (ps := ps) (hs := hs) with ⟨_, _, h5⟩ | ⟨h5, _⟩
    case inr => exact absurd h1 h5
    rw [h5] at hck
    have Hck := Lib.hid hck
    clear hck hL h1 h3 h4 h5
    generalize ps.length = np at *
    generalize hs.length = nh at *
    have kb : Blk (w.alloc (.cells #[.slice A np c, .slice B nh d] 25)) w.heap.size [.slice A np c, .slice B nh d] := Blk.new _ _
    have b0 := kb.at_ 0 rfl
    have b1 := kb.at_ 1 rfl
    have hx0 : Ext w (w.alloc (.cells #[.slice A np c, .slice B nh d] 25)) := (Ext.refl _).alloc _
    have Hx0 := Lib.hid hx0
    clear kb hx0
    by_cases hx : x < 0
    · have d1 : decide (x < 0) = true := by simp [hx]
      clear h2
      go_enter Try.func37, Try.ntmps37
      go_wp2_with (go_at_call 30; refine (Hck.out _ Hx0.out).mono ?_; rintro e w1 ⟨rfl, hx1⟩; have hxx := Hx0.out.trans hx1; replace b0 : ∀ w', Ext w1 w' → _ := fun w' he => b0 w' (hx1.trans he); replace b1 : ∀ w', Ext w1 w' → _ := fun w' he => b1 w' (hx1.trans he))
      go_ret2
      exact ⟨_, rfl, Own.nil' hxx _ _⟩
    · have h5 : (nh : Int) ≤ x := by omega
      have h6 : 0 ≤ x := by omega
      clear h2 hx
      go_enter Try.func37, Try.ntmps37
      go_wp2_with (go_at_call 30; refine (Hck.out _ Hx0.out).mono ?_; rintro e w1 ⟨rfl, hx1⟩; have hxx := Hx0.out.trans hx1; replace b0 : ∀ w', Ext w1 w' → _ := fun w' he => b0 w' (hx1.trans he); replace b1 : ∀ w', Ext w1 w' → _ := fun w' he => b1 w' (hx1.trans he))
      go_ret2
      exact ⟨_, rfl, Own.nil' hxx _ _⟩
  · rw [h3, h4]
    rcases linkB_eq (ps := ps) (hs := hs) with ⟨h5, _⟩ | ⟨_, _, h5⟩
    case inl => exact absurd h5 h1
    rw [h5] at hck
    have Hck := Lib.hid hck
    clear hck hL h1 h3 h4 h5
    generalize ps.length = np at *
    generalize hs.length = nh at *
    have kb : Blk (w.alloc (.cells #[.slice A np c, .slice B nh d] 25)) w.heap.size [.slice A np c, .slice B nh d] := Blk.new _ _
    have b0 := kb.at_ 0 rfl
    have b1 := kb.at_ 1 rfl
    have hx0 : Ext w (w.alloc (.cells #[.slice A np c, .slice B nh d] 25)) := (Ext.refl _).alloc _
    have Hx0 := Lib.hid hx0
    clear kb hx0
    go_enter Try.func37, Try.ntmps37
    go_wp2_with (go_at_call 30; refine (Hck.out _ Hx0.out).mono ?_; rintro e w1 ⟨rfl, hx1⟩; have hxx := Hx0.out.trans hx1)
    go_ret2
    exact ⟨_, rfl, Own.nil' hxx _ _⟩
set_option maxRecDepth 100000 in
set_option maxHeartbeats 8000000 in
theorem swings_ref (A : Option Addr) (c : Nat) (ps : List (List Sp)) (B : Option Addr) (d : Nat) (hs : List Hg) (x : Int) (w : World) (hL : Lk w A ps B hs) :
    Calls Try.prog 38 #[.agg #[.slice A ps.length c, .slice B hs.length d], .int .i64 x] w fun e w' => ∃ v, e = .returned (.tuple #[v, .int .i64 (swE ps hs x)]) ∧ OwnI w w' v (swR ps hs x) := by
  have hck := fun w' (he : Ext w w') => (hL.ext he).valid c d
  have hnh := hL.nh
  rcases swE_cases ps hs x with ⟨k, rfl, h1, h2, h3, h4⟩ | ⟨h1, h2, h3, h4⟩ | ⟨h1, h3, h4⟩
  · rw [h3, h4]
    exact swings_ref_good A c ps B d hs k w hL h2 h1
  · rw [h3, h4]
    rcases linkB_eq (ps := ps) (hs := hs) with ⟨_, h5, _⟩ | ⟨h5, _⟩
    case inr => exact absurd h1 h5
    rw [h5] at hck
    have hwi : withinB x 0 ((hs.length : Int) - 1) = false := by rw [withinB_false]; omega
    have hww : IntKind.i64.wrap ((hs.length : Int) - 1) = (hs.length : Int) - 1 := by rw [IntKind.wrap_i64]; omega
    have Hck := Lib.hid hck
    have Hwi := Lib.hid hwi
    clear hck hL h1 h2 h3 h4 h5 hwi hnh
    generalize ps.length = np at *
    generalize hs.length = nh at *
    have kb : Blk (w.alloc (.cells #[.slice A np c, .slice B nh d] 25)) w.heap.size [.slice A np c, .slice B nh d] := Blk.new _ _
    have b0 := kb.at_ 0 rfl
    have b1 := kb.at_ 1 rfl
    have hx0 : Ext w (w.alloc (.cells #[.slice A np c, .slice B nh d] 25)) := (Ext.refl _).alloc _
    have Hx0 := Lib.hid hx0
    clear kb hx0
    go_enter Try.func38, Try.ntmps38
    go_wp2_with (first
      | (go_at_call 65; refine (Hck.out _ Hx0.out).mono ?_; rintro e w1 ⟨rfl, hx1⟩; have hxx := Hx0.out.trans hx1; replace b0 : ∀ w', Ext w1 w' → _ := fun w' he => b0 w' (hx1.trans he); replace b1 : ∀ w', Ext w1 w' → _ := fun w' he => b1 w' (hx1.trans he))
      | (go_at_call 58; refine (within_any _ _ _ _).mono ?_; rw [Hwi.out]; rintro e w' ⟨rfl, rfl⟩))
    go_ret2
    exact ⟨_, rfl, Own.nil' hxx _ _⟩
  · rw [h3, h4]
    rcases linkB_eq (ps := ps) (hs := hs) with ⟨h5, _⟩ | ⟨_, h5, _⟩
    case inl => exact absurd h5 h1
    rw [h5] at hck
    have Hck := Lib.hid hck
    clear hck hL h1 h3 h4 h5 hnh
    generalize ps.length = np at *
    generalize hs.length = nh at *
    have kb : Blk (w.alloc (.cells #[.slice A np c, .slice B nh d] 25)) w.heap.size [.slice A np c, .slice B nh d] := Blk.new _ _
    have b0 := kb.at_ 0 rfl
    have b1 := kb.at_ 1 rfl
    have hx0 : Ext w (w.alloc (.cells #[.slice A np c, .slice B nh d] 25)) := (Ext.refl _).alloc _
    have Hx0 := Lib.hid hx0
    clear kb hx0
    go_enter Try.func38, Try.ntmps38
    go_wp2_with (go_at_call 65; refine (Hck.out _ Hx0.out).mono ?_; rintro e w1 ⟨rfl, hx1⟩; have hxx := Hx0.out.trans hx1)
    go_ret2
    exact ⟨_, rfl, Own.nil' hxx _ _⟩
theorem swR_len (ps : List (List Sp)) (hs : List Hg) (x : Int) : (swR ps hs x).length ≤ 36 := by
  unfold swR
  split
  · split
    · exact swL_len _ _ _ _
    · simp
  · simp
end Go.Proofs.Yteilglljigjefaa

/- A panel with a corner less. Plain Lean. -/
namespace Go.Proofs.Yteilglljigjefaa
/-- The old number of a corner when one is left out. -/
def skp (c i : Nat) : Nat := if i < c then i else i + 1
theorem skp_lt {c i n : Nat} (h : i < n - 1) : skp c i < n := by unfold skp; split <;> omega
theorem skp_ne {c i : Nat} : skp c i ≠ c := by unfold skp; split <;> omega
theorem skp_inj {c i j : Nat} (h : skp c i = skp c j) : i = j := by unfold skp at h; split at h <;> split at h <;> omega
theorem skp_next {c i n : Nat} (hn : 4 ≤ n) (hc : c < n) (hi : i < n - 1) : skp c ((i + 1) % (n - 1)) = (skp c i + 1) % n ∨ ((skp c i + 1) % n = c ∧ skp c ((i + 1) % (n - 1)) = (c + 1) % n) := by
  have m1 : ∀ a, a < n → a % n = a := fun a h => Nat.mod_eq_of_lt h
  have m2 : n % n = 0 := Nat.mod_self n
  by_cases h : i + 1 < n - 1
  · rw [Nat.mod_eq_of_lt h]
    unfold skp
    by_cases h1 : i + 1 < c
    · rw [if_pos h1, if_pos (by omega), m1 _ (by omega)]; exact .inl rfl
    · by_cases h2 : i < c
      · rw [if_neg h1, if_pos h2, m1 _ (by omega), m1 _ (by omega)]; exact .inr ⟨by omega, by omega⟩
      · rw [if_neg h1, if_neg h2, m1 _ (by omega)]; exact .inl rfl
  · have e : i + 1 = n - 1 := by omega
    rw [e, Nat.mod_self]
    unfold skp
    by_cases h0 : c = 0
    · rw [if_neg (by omega), if_neg (by omega), show i + 1 + 1 = n by omega, m2, m1 _ (by omega)]; exact .inr ⟨by omega, by omega⟩
    · by_cases h1 : i < c
      · rw [if_pos (by omega), if_pos h1, m1 _ (by omega), show c + 1 = n by omega, m2]; exact .inr ⟨by omega, rfl⟩
      · rw [if_pos (by omega), if_neg h1, show i + 1 + 1 = n by omega, m2]; exact .inl rfl
theorem Cvx.less {K : Nat → Sp} {n c : Nat} (h : Cvx K n) (hn : 4 ≤ n) (hc : c < n) : Cvx (fun i => K (skp c i)) (n - 1) := by
  refine ⟨by omega, fun i k hi hk h1 h2 => ?_⟩
  simp only
  have hI := skp_lt (c := c) hi
  have hk' := skp_lt (c := c) hk
  have h1' : skp c k ≠ skp c i := fun e => h1 (skp_inj e)
  have h2' : skp c k ≠ skp c ((i + 1) % (n - 1)) := fun e => h2 (skp_inj e)
  have hc1 : (c + 1) % n ≠ c := fun e => by
    by_cases hl : c + 1 < n
    · rw [Nat.mod_eq_of_lt hl] at e; omega
    · rw [show c + 1 = n by omega, Nat.mod_self] at e; omega
  rcases skp_next hn hc hi with e | ⟨e1, e2⟩
  · rw [e]
    rw [e] at h2'
    exact h.2 _ _ hI hk' h1' h2'
  · rw [e2]
    rw [e2] at h2'
    refine skip_left h hI hc (Nat.mod_lt _ (by omega)) hk' e1 rfl ?_ skp_ne hc1 h1' skp_ne h2'
    -- the corner before is not the one behind
    intro e
    generalize skp c i = a at *
    by_cases hl : c + 1 < n
    · rw [Nat.mod_eq_of_lt hl] at e
      subst e
      by_cases hl2 : c + 1 + 1 < n
      · rw [Nat.mod_eq_of_lt hl2] at e1; omega
      · rw [show c + 1 + 1 = n by omega, Nat.mod_self] at e1; omega
    · rw [show c + 1 = n by omega, Nat.mod_self] at e
      subst e
      rw [Nat.mod_eq_of_lt (by omega)] at e1
      omega
/-- What is apart from all is apart from a part. -/
theorem ptd_less {K L : Nat → Sp} {n m c : Nat} {d e : Int} (hK : Cvx K n) (hK' : Cvx (fun i => K (skp c i)) (n - 1)) (hL : Cvx L m) (hd : 0 < d) (he : 0 < e)
    (h : Ptd K n d L m e ∨ Ptd L m e K n d) : Ptd (fun i => K (skp c i)) (n - 1) d L m e ∨ Ptd L m e (fun i => K (skp c i)) (n - 1) d := by
  rcases h with ⟨i, hi, hp⟩ | ⟨i, hi, hp⟩
  · have hb := btw_edge (e := e) (L := L) (m := m) hK hd hi hp
    refine Btw.ptd (C := _) ⟨fun k hk => hb.1 _ (skp_lt hk), hb.2⟩ hK' hL hd hd he (edge_ne hK hi)
  · exact .inr ⟨i, hi, fun j hj => hp _ (skp_lt hj)⟩
end Go.Proofs.Yteilglljigjefaa
