/- The law HingeProved. -/
import Derived.Test.YteilglljigjefaaJ31
import Derived.Test.YteilglljigjefaaJ32
namespace Go.Proofs.Yteilglljigjefaa
open Go.RowKit
set_option maxRecDepth 100000 in
set_option maxHeartbeats 8000000 in
theorem proved_law_out (A : Option Addr) (c : Nat) (ps : List (List Sp)) (B : Option Addr) (d : Nat) (hs : List Hg) (i k : Int) (o : Apr) (I : Option Addr) (ic : Nat) (w : World) (hA : PnRow w A ps) (hg : greatP ps hs ∨ 100 < o.ins.length) :
    Calls Try.prog 7 #[.agg #[.slice A ps.length c, .slice B hs.length d], .int .i64 i, .int .i64 k, o.val I ic] w fun e w' => e = .returned (.bool true) ∧ Ext w w' := by
  have hgr := fun w' (he : Ext w w') => great_any A c ps B d hs w' (hA.ext he)
  obtain ⟨oc, oA, oB, oC, oE, oi⟩ := o
  simp only at hg
  by_cases h1 : greatP ps hs
  · rw [← greatB_yes h1] at hgr
    have Hgr := Lib.hid hgr
    clear hgr hA hg h1
    generalize ps.length = np at *
    generalize hs.length = nh at *
    have kl : Blk ((w.alloc (.cells #[.slice A np c, .slice B nh d] 25)).alloc (.cells #[.bool oc, vint oA, vint oB, vint oC, vint oE, .slice I oi.length ic] 67)) w.heap.size [.slice A np c, .slice B nh d] := (Blk.new _ _).ext ((Ext.refl _).alloc _)
    have ko : Blk ((w.alloc (.cells #[.slice A np c, .slice B nh d] 25)).alloc (.cells #[.bool oc, vint oA, vint oB, vint oC, vint oE, .slice I oi.length ic] 67)) (w.heap.size + 1) [.bool oc, vint oA, vint oB, vint oC, vint oE, .slice I oi.length ic] := (Blk.new' (cs := #[.bool oc, vint oA, vint oB, vint oC, vint oE, .slice I oi.length ic]) (by simp))
    have l0 := kl.at_ 0 rfl
    have l1 := kl.at_ 1 rfl
    have o0 := ko.at_ 0 rfl
    have o1 := ko.at_ 1 rfl
    have o2 := ko.at_ 2 rfl
    have o3 := ko.at_ 3 rfl
    have o4 := ko.at_ 4 rfl
    have o5 := ko.at_ 5 rfl
    have hx0 : Ext w ((w.alloc (.cells #[.slice A np c, .slice B nh d] 25)).alloc (.cells #[.bool oc, vint oA, vint oB, vint oC, vint oE, .slice I oi.length ic] 67)) := (((Ext.refl _).alloc _).alloc _)
    have Hx0 := Lib.hid hx0
    have hb0 : Ext ((w.alloc (.cells #[.slice A np c, .slice B nh d] 25)).alloc (.cells #[.bool oc, vint oA, vint oB, vint oC, vint oE, .slice I oi.length ic] 67)) ((w.alloc (.cells #[.slice A np c, .slice B nh d] 25)).alloc (.cells #[.bool oc, vint oA, vint oB, vint oC, vint oE, .slice I oi.length ic] 67)) := Ext.refl _
    clear kl ko hx0
    go_enter Try.func7, Try.ntmps7
    go_wp2_with (first
      | (go_at_call 17; refine (Hgr.out _ (Hx0.out.trans hb1)).mono ?_; rintro e w2 ⟨rfl, hx2⟩; have hb2 := hb1.trans hx2; clear hb1 hx2)
      | (go_at_call 46; refine (alive_any _).mono ?_; rintro e w1 ⟨rfl, hx1⟩; have hb1 := hb0.trans hx1; clear hb0 hx1))
    go_ret
    exact ⟨rfl, Hx0.out.trans hb2⟩
  · rw [← greatB_no h1] at hgr
    have hm : 100 < oi.length := by
      rcases hg with h | h
      · exact absurd h h1
      · exact h
    have Hgr := Lib.hid hgr
    clear hgr hA hg h1
    generalize ps.length = np at *
    generalize hs.length = nh at *
    have d1 : decide ((100 : Int) < (oi.length : Int)) = true := by simp; omega
    have kl : Blk ((w.alloc (.cells #[.slice A np c, .slice B nh d] 25)).alloc (.cells #[.bool oc, vint oA, vint oB, vint oC, vint oE, .slice I oi.length ic] 67)) w.heap.size [.slice A np c, .slice B nh d] := (Blk.new _ _).ext ((Ext.refl _).alloc _)
    have ko : Blk ((w.alloc (.cells #[.slice A np c, .slice B nh d] 25)).alloc (.cells #[.bool oc, vint oA, vint oB, vint oC, vint oE, .slice I oi.length ic] 67)) (w.heap.size + 1) [.bool oc, vint oA, vint oB, vint oC, vint oE, .slice I oi.length ic] := (Blk.new' (cs := #[.bool oc, vint oA, vint oB, vint oC, vint oE, .slice I oi.length ic]) (by simp))
    have l0 := kl.at_ 0 rfl
    have l1 := kl.at_ 1 rfl
    have o0 := ko.at_ 0 rfl
    have o1 := ko.at_ 1 rfl
    have o2 := ko.at_ 2 rfl
    have o3 := ko.at_ 3 rfl
    have o4 := ko.at_ 4 rfl
    have o5 := ko.at_ 5 rfl
    have hx0 : Ext w ((w.alloc (.cells #[.slice A np c, .slice B nh d] 25)).alloc (.cells #[.bool oc, vint oA, vint oB, vint oC, vint oE, .slice I oi.length ic] 67)) := (((Ext.refl _).alloc _).alloc _)
    have Hx0 := Lib.hid hx0
    have hb0 : Ext ((w.alloc (.cells #[.slice A np c, .slice B nh d] 25)).alloc (.cells #[.bool oc, vint oA, vint oB, vint oC, vint oE, .slice I oi.length ic] 67)) ((w.alloc (.cells #[.slice A np c, .slice B nh d] 25)).alloc (.cells #[.bool oc, vint oA, vint oB, vint oC, vint oE, .slice I oi.length ic] 67)) := Ext.refl _
    clear kl ko hx0
    go_enter Try.func7, Try.ntmps7
    go_wp2_with (first
      | (go_at_call 17; refine (Hgr.out _ (Hx0.out.trans hb1)).mono ?_; rintro e w2 ⟨rfl, hx2⟩; have hb2 := hb1.trans hx2; clear hb1 hx2)
      | (go_at_call 46; refine (alive_any _).mono ?_; rintro e w1 ⟨rfl, hx1⟩; have hb1 := hb0.trans hx1; clear hb0 hx1))
    go_ret
    exact ⟨rfl, Hx0.out.trans hb2⟩
set_option maxRecDepth 100000 in
set_option maxHeartbeats 8000000 in
theorem proved_law_bad (A : Option Addr) (c : Nat) (ps : List (List Sp)) (B : Option Addr) (d : Nat) (hs : List Hg) (i k : Int) (o : Apr) (I : Option Addr) (ic : Nat) (w : World) (hA : PnRow w A ps) (hB : HRow w B hs) (hg : ¬ greatP ps hs) (hm : o.ins.length ≤ 100) (h2 : twoE ps hs i k = 2 ∨ twoE ps hs i k = 50) (h3 : ¬ (linkP ps hs ∧ twoP ps i k)) :
    Calls Try.prog 7 #[.agg #[.slice A ps.length c, .slice B hs.length d], .int .i64 i, .int .i64 k, o.val I ic] w fun e w' => e = .returned (.bool true) ∧ Ext w w' := by
  have hL := lk_of hA hB hg
  have hgr := fun w' (he : Ext w w') => great_any A c ps B d hs w' (hA.ext he)
  rw [← greatB_no hg] at hgr
  have h4 : ¬ (linkP ps hs ∧ twoP ps k i) := fun ⟨ha, hb⟩ => h3 ⟨ha, hb.2.1, hb.1, Ne.symm hb.2.2⟩
  have h5 : twoE ps hs k i = twoE ps hs i k := by
    unfold twoE
    by_cases hl : linkP ps hs
    · rw [if_pos hl, if_pos hl, if_neg (fun h => h4 ⟨hl, h⟩), if_neg (fun h => h3 ⟨hl, h⟩)]
    · rw [if_neg hl, if_neg hl]
  have hc1 := fun w' (he : Ext w w') => (clash_bad A c ps B d hs i k w' (hL.ext he) h2 h3).mono (R' := fun e w'' => e = .returned (.tuple #[.agg #[.bool false, vint 0, vint 0, vint 0, vint 0, .slice none 0 0], .int .i64 (twoE ps hs i k)]) ∧ Ext w' w'') fun e w'' h => h
  have hc2 := fun w' (he : Ext w w') => (clash_bad A c ps B d hs k i w' (hL.ext he) (by rw [h5]; exact h2) h4).mono (R' := fun e w'' => e = .returned (.tuple #[.agg #[.bool false, vint 0, vint 0, vint 0, vint 0, .slice none 0 0], .int .i64 (twoE ps hs k i)]) ∧ Ext w' w'') fun e w'' h => h
  rw [h5] at hc2
  obtain ⟨oc, oA, oB, oC, oE, oi⟩ := o
  have d1 : decide ((100 : Int) < (oi.length : Int)) = false := by have hm : oi.length ≤ 100 := hm; simp; omega
  have Hgr := Lib.hid hgr
  have Hc1 := Lib.hid hc1
  have Hc2 := Lib.hid hc2
  clear hgr hc1 hc2 hL hA hB hg hm h3 h4 h5
  generalize ps.length = np at *
  generalize hs.length = nh at *
  rcases h2 with h2 | h2
  all_goals
    rw [h2] at Hc1 Hc2
    clear h2
    have kl : Blk ((w.alloc (.cells #[.slice A np c, .slice B nh d] 25)).alloc (.cells #[.bool oc, vint oA, vint oB, vint oC, vint oE, .slice I oi.length ic] 67)) w.heap.size [.slice A np c, .slice B nh d] := (Blk.new _ _).ext ((Ext.refl _).alloc _)
    have ko : Blk ((w.alloc (.cells #[.slice A np c, .slice B nh d] 25)).alloc (.cells #[.bool oc, vint oA, vint oB, vint oC, vint oE, .slice I oi.length ic] 67)) (w.heap.size + 1) [.bool oc, vint oA, vint oB, vint oC, vint oE, .slice I oi.length ic] := (Blk.new' (cs := #[.bool oc, vint oA, vint oB, vint oC, vint oE, .slice I oi.length ic]) (by simp))
    have l0 := kl.at_ 0 rfl
    have l1 := kl.at_ 1 rfl
    have o0 := ko.at_ 0 rfl
    have o1 := ko.at_ 1 rfl
    have o2 := ko.at_ 2 rfl
    have o3 := ko.at_ 3 rfl
    have o4 := ko.at_ 4 rfl
    have o5 := ko.at_ 5 rfl
    have hx0 : Ext w ((w.alloc (.cells #[.slice A np c, .slice B nh d] 25)).alloc (.cells #[.bool oc, vint oA, vint oB, vint oC, vint oE, .slice I oi.length ic] 67)) := (((Ext.refl _).alloc _).alloc _)
    have Hx0 := Lib.hid hx0
    have hb0 : Ext ((w.alloc (.cells #[.slice A np c, .slice B nh d] 25)).alloc (.cells #[.bool oc, vint oA, vint oB, vint oC, vint oE, .slice I oi.length ic] 67)) ((w.alloc (.cells #[.slice A np c, .slice B nh d] 25)).alloc (.cells #[.bool oc, vint oA, vint oB, vint oC, vint oE, .slice I oi.length ic] 67)) := Ext.refl _
    clear kl ko hx0
    go_enter Try.func7, Try.ntmps7
    go_wp2_with (first
      | (go_at_call 42; refine (Hc2.out _ (Hx0.out.trans hb3)).mono ?_; rintro e w4 ⟨rfl, hx4⟩; have hb4 := (hb3.trans hx4); have hx4' := hx4.trans ((Ext.refl w4).alloc (.cells #[.bool false, vint 0, vint 0, vint 0, vint 0, .slice none 0 0] 67)); replace p0 : ∀ w', Ext (w4.alloc (.cells #[.bool false, vint 0, vint 0, vint 0, vint 0, .slice none 0 0] 67)) w' → _ := fun w' he => p0 w' (hx4'.trans he); replace p1 : ∀ w', Ext (w4.alloc (.cells #[.bool false, vint 0, vint 0, vint 0, vint 0, .slice none 0 0] 67)) w' → _ := fun w' he => p1 w' (hx4'.trans he); replace p2 : ∀ w', Ext (w4.alloc (.cells #[.bool false, vint 0, vint 0, vint 0, vint 0, .slice none 0 0] 67)) w' → _ := fun w' he => p2 w' (hx4'.trans he); replace p3 : ∀ w', Ext (w4.alloc (.cells #[.bool false, vint 0, vint 0, vint 0, vint 0, .slice none 0 0] 67)) w' → _ := fun w' he => p3 w' (hx4'.trans he); replace p4 : ∀ w', Ext (w4.alloc (.cells #[.bool false, vint 0, vint 0, vint 0, vint 0, .slice none 0 0] 67)) w' → _ := fun w' he => p4 w' (hx4'.trans he); replace p5 : ∀ w', Ext (w4.alloc (.cells #[.bool false, vint 0, vint 0, vint 0, vint 0, .slice none 0 0] 67)) w' → _ := fun w' he => p5 w' (hx4'.trans he); clear hx4 hx4' hb3)
      | (go_at_call 42; refine (Hc1.out _ (Hx0.out.trans hb2)).mono ?_; rintro e w3 ⟨rfl, hx3⟩; have hb3 := (hb2.trans hx3).alloc (.cells #[.bool false, vint 0, vint 0, vint 0, vint 0, .slice none 0 0] 67); have kop := (Blk.new (W := w3) #[.bool false, vint 0, vint 0, vint 0, vint 0, .slice none 0 0] 67); have p0 := kop.at_ 0 rfl; have p1 := kop.at_ 1 rfl; have p2 := kop.at_ 2 rfl; have p3 := kop.at_ 3 rfl; have p4 := kop.at_ 4 rfl; have p5 := kop.at_ 5 rfl; clear kop; clear hb2 hx3)
      | (go_at_call 17; refine (Hgr.out _ (Hx0.out.trans hb1)).mono ?_; rintro e w2 ⟨rfl, hx2⟩; have hb2 := hb1.trans hx2; clear hb1 hx2)
      | (go_at_call 46; refine (alive_any _).mono ?_; rintro e w1 ⟨rfl, hx1⟩; have hb1 := hb0.trans hx1; clear hb0 hx1))
    go_ret
    exact ⟨rfl, (Hx0.out.trans hb4).alloc _⟩
set_option maxRecDepth 100000 in
set_option maxHeartbeats 16000000 in
theorem proved_law_in (A : Option Addr) (c : Nat) (ps : List (List Sp)) (B : Option Addr) (d : Nat) (hs : List Hg) (i k : Nat) (o : Apr) (I : Option Addr) (ic : Nat) (w : World) (hA : PnRow w A ps) (hB : HRow w B hs) (hr : AprIn w o I ic) (hg : ¬ greatP ps hs) (hm : o.ins.length ≤ 100) (hl : linkP ps hs) (hi : i < ps.length) (hk : k < ps.length) (hne : i ≠ k) :
    Calls Try.prog 7 #[.agg #[.slice A ps.length c, .slice B hs.length d], .int .i64 i, .int .i64 k, o.val I ic] w fun e w' => e = .returned (.bool true) ∧ Ext w w' := by
  have hL := lk_of hA hB hg
  have hgr := fun w' (he : Ext w w') => great_any A c ps B d hs w' (hA.ext he)
  rw [← greatB_no hg] at hgr
  have ht1 : twoE ps hs i k = 0 := two_good hl ⟨⟨by omega, by omega⟩, ⟨by omega, by omega⟩, by omega⟩
  have ht2 : twoE ps hs k i = 0 := two_good hl ⟨⟨by omega, by omega⟩, ⟨by omega, by omega⟩, by omega⟩
  have hvi : panelP (pnA ps i) := by rw [pnA_at hi]; exact hl.2.2.1 _ (List.getElem_mem hi)
  have hvk : panelP (pnA ps k) := by rw [pnA_at hk]; exact hl.2.2.1 _ (List.getElem_mem hk)
  have htell : ∀ r : Apr, rightP r (pcrn ps hs i) (pcrn ps hs k) → r.clear = !clashB (pcrn ps hs i) (pcrn ps hs k) := fun r h => by
    have := right_tells (link_pose hl hi) (link_pose hl hk) hvi hvk h
    unfold pcrn
    rw [this, Bool.not_not]
  have htell2 : ∀ r : Apr, rightP r (pcrn ps hs k) (pcrn ps hs i) → r.clear = !clashB (pcrn ps hs i) (pcrn ps hs k) := fun r h => by
    have := right_tells (link_pose hl hk) (link_pose hl hi) hvk hvi h
    rw [clashB_comm]
    unfold pcrn
    rw [this, Bool.not_not]
  have hc1 := fun w' (he : Ext w w') => (clash_good A c ps B d hs i k w' (hL.ext he) hl hi hk hne).mono (R' := fun e w'' => ∃ rA rB rC rE J n jc, e = .returned (.tuple #[.agg #[.bool (!clashB (pcrn ps hs i) (pcrn ps hs k)), vint rA, vint rB, vint rC, vint rE, .slice J n jc], .int .i64 (if clashB (pcrn ps hs i) (pcrn ps hs k) = true then 51 else 0)]) ∧ (∀ w3, Ext w'' w3 → Calls Try.prog 44 #[.agg #[.slice A ps.length c, .slice B hs.length d], .int .i64 i, .int .i64 k, .agg #[.bool (!clashB (pcrn ps hs i) (pcrn ps hs k)), vint rA, vint rB, vint rC, vint rE, .slice J n jc]] w3 fun e w4 => e = .returned (.int .i64 0) ∧ Ext w3 w4) ∧ Ext w' w'') fun e w'' ⟨r, J, jc, he', hin, hx, hp⟩ => by
    rw [← htell r hp]
    refine ⟨r.A, r.B, r.C, r.E, J, r.ins.length, jc, he', fun w3 h3 => ?_, hx⟩
    have hq := checkapart_any A c ps B d hs i k r J jc w3 (hL.ext ((he.trans hx).trans h3)) (hin.ext h3)
    have e0 : apartE ps hs i k r = 0 := by rw [apartE_nat ht1, if_pos (show rightB r (pcrn ps hs i) (pcrn ps hs k) = true from decide_eq_true hp)]
    rw [e0] at hq
    exact hq
  have hc2 := fun w' (he : Ext w w') => (clash_good A c ps B d hs k i w' (hL.ext he) hl hk hi (Ne.symm hne)).mono (R' := fun e w'' => ∃ rA rB rC rE J n jc, e = .returned (.tuple #[.agg #[.bool (!clashB (pcrn ps hs i) (pcrn ps hs k)), vint rA, vint rB, vint rC, vint rE, .slice J n jc], .int .i64 (if clashB (pcrn ps hs i) (pcrn ps hs k) = true then 51 else 0)]) ∧ (∀ w3, Ext w'' w3 → Calls Try.prog 44 #[.agg #[.slice A ps.length c, .slice B hs.length d], .int .i64 k, .int .i64 i, .agg #[.bool (!clashB (pcrn ps hs i) (pcrn ps hs k)), vint rA, vint rB, vint rC, vint rE, .slice J n jc]] w3 fun e w4 => e = .returned (.int .i64 0) ∧ Ext w3 w4) ∧ Ext w' w'') fun e w'' ⟨r, J, jc, he', hin, hx, hp⟩ => by
    rw [clashB_comm] at he'
    rw [← htell2 r hp]
    refine ⟨r.A, r.B, r.C, r.E, J, r.ins.length, jc, he', fun w3 h3 => ?_, hx⟩
    have hq := checkapart_any A c ps B d hs k i r J jc w3 (hL.ext ((he.trans hx).trans h3)) (hin.ext h3)
    have e0 : apartE ps hs k i r = 0 := by rw [apartE_nat ht2, if_pos (show rightB r (pcrn ps hs k) (pcrn ps hs i) = true from decide_eq_true hp)]
    rw [e0] at hq
    exact hq
  have hco := fun w' (he : Ext w w') => checkapart_any A c ps B d hs i k o I ic w' (hL.ext he) (hr.ext he)
  have hot : apartE ps hs i k o = 0 → o.clear = !clashB (pcrn ps hs i) (pcrn ps hs k) := fun h => by
    rw [apartE_nat ht1] at h
    split at h
    · rename_i h2
      exact htell o (of_decide_eq_true h2)
    · omega
  clear htell htell2 hL hA hB hr hg hl hi hk hne ht1 ht2 hvi hvk
  generalize apartE ps hs i k o = F at *
  generalize clashB (pcrn ps hs i) (pcrn ps hs k) = b at *
  obtain ⟨oc, oA, oB, oC, oE, oi⟩ := o
  have d1 : decide ((100 : Int) < (oi.length : Int)) = false := by have hm : oi.length ≤ 100 := hm; simp; omega
  simp only at hot
  have Hgr := Lib.hid hgr
  have Hc1 := Lib.hid hc1
  have Hc2 := Lib.hid hc2
  have Hco := Lib.hid hco
  clear hgr hc1 hc2 hco hm
  generalize ps.length = np at *
  generalize hs.length = nh at *
  generalize (i : Int) = i' at *
  generalize (k : Int) = k' at *
  have kl : Blk ((w.alloc (.cells #[.slice A np c, .slice B nh d] 25)).alloc (.cells #[.bool oc, vint oA, vint oB, vint oC, vint oE, .slice I oi.length ic] 67)) w.heap.size [.slice A np c, .slice B nh d] := (Blk.new _ _).ext ((Ext.refl _).alloc _)
  have ko : Blk ((w.alloc (.cells #[.slice A np c, .slice B nh d] 25)).alloc (.cells #[.bool oc, vint oA, vint oB, vint oC, vint oE, .slice I oi.length ic] 67)) (w.heap.size + 1) [.bool oc, vint oA, vint oB, vint oC, vint oE, .slice I oi.length ic] := (Blk.new' (cs := #[.bool oc, vint oA, vint oB, vint oC, vint oE, .slice I oi.length ic]) (by simp))
  have l0 := kl.at_ 0 rfl
  have l1 := kl.at_ 1 rfl
  have o0 := ko.at_ 0 rfl
  have o1 := ko.at_ 1 rfl
  have o2 := ko.at_ 2 rfl
  have o3 := ko.at_ 3 rfl
  have o4 := ko.at_ 4 rfl
  have o5 := ko.at_ 5 rfl
  have hx0 : Ext w ((w.alloc (.cells #[.slice A np c, .slice B nh d] 25)).alloc (.cells #[.bool oc, vint oA, vint oB, vint oC, vint oE, .slice I oi.length ic] 67)) := (((Ext.refl _).alloc _).alloc _)
  have Hx0 := Lib.hid hx0
  have hb0 : Ext ((w.alloc (.cells #[.slice A np c, .slice B nh d] 25)).alloc (.cells #[.bool oc, vint oA, vint oB, vint oC, vint oE, .slice I oi.length ic] 67)) ((w.alloc (.cells #[.slice A np c, .slice B nh d] 25)).alloc (.cells #[.bool oc, vint oA, vint oB, vint oC, vint oE, .slice I oi.length ic] 67)) := Ext.refl _
  clear kl ko hx0
  have hF : (F != 0) = true ∨ F = 0 := by
    by_cases h : F = 0
    · exact .inr h
    · exact .inl (by simpa using h)
  rcases hF with hF | rfl
  · clear hot
    go_enter Try.func7, Try.ntmps7
    cases b
    · simp only [Bool.not_false, Bool.false_eq_true, if_false] at Hc1 Hc2
      go_wp2_with (first
        | (go_at_call 44; refine (Hco.out _ (Hx0.out.trans hb6)).mono ?_; rintro e w7 ⟨rfl, hx7⟩; have hb7 := hb6.trans hx7; have hp7 := hp6.trans hx7; clear hx7)
        | (go_at_call 44; refine (Hcq.out _ (((Ext.refl w4).alloc (.cells #[.bool true, vint qA, vint qB, vint qC, vint qE, .slice qI qn qic] 67)).trans hq5)).mono ?_; rintro e w6 ⟨rfl, hx6⟩; have hb6 := hb5.trans hx6; have hp6 := hp5.trans hx6; clear hb5 hq5 hp5 hx6)
        | (go_at_call 44; refine (Hcp.out _ (((Ext.refl w3).alloc (.cells #[.bool true, vint pA, vint pB, vint pC, vint pE, .slice pI pn pic] 67)).trans hp4)).mono ?_; rintro e w5 ⟨rfl, hq5⟩; have hb5 := hb4.trans hq5; have hp5 := hp4.trans hq5; clear hb4 hp4)
        | (go_at_call 42; refine (Hc2.out _ (Hx0.out.trans hb3)).mono ?_; rintro e w4 ⟨qA, qB, qC, qE, qI, qn, qic, rfl, hcq, hx4⟩; have Hcq := Lib.hid hcq; have hb3' := hb3.trans hx4; have hb4 := hb3'.alloc (.cells #[.bool true, vint qA, vint qB, vint qC, vint qE, .slice qI qn qic] 67); have hp4 := hx4.alloc (.cells #[.bool true, vint qA, vint qB, vint qC, vint qE, .slice qI qn qic] 67); have koq := (Blk.new (W := w4) #[.bool true, vint qA, vint qB, vint qC, vint qE, .slice qI qn qic] 67); have q0 := koq.at_ 0 rfl; have q1 := koq.at_ 1 rfl; have q2 := koq.at_ 2 rfl; have q3 := koq.at_ 3 rfl; have q4 := koq.at_ 4 rfl; have q5 := koq.at_ 5 rfl; clear koq; clear hcq hb3)
        | (go_at_call 42; refine (Hc1.out _ (Hx0.out.trans hb2)).mono ?_; rintro e w3 ⟨pA, pB, pC, pE, pI, pn, pic, rfl, hcp, hx3⟩; have Hcp := Lib.hid hcp; have hb2' := hb2.trans hx3; have hb3 := hb2'.alloc (.cells #[.bool true, vint pA, vint pB, vint pC, vint pE, .slice pI pn pic] 67); have kop := (Blk.new (W := w3) #[.bool true, vint pA, vint pB, vint pC, vint pE, .slice pI pn pic] 67); have p0 := kop.at_ 0 rfl; have p1 := kop.at_ 1 rfl; have p2 := kop.at_ 2 rfl; have p3 := kop.at_ 3 rfl; have p4 := kop.at_ 4 rfl; have p5 := kop.at_ 5 rfl; clear kop; clear hcp hb2)
        | (go_at_call 17; refine (Hgr.out _ (Hx0.out.trans hb1)).mono ?_; rintro e w2 ⟨rfl, hx2⟩; have hb2 := hb1.trans hx2; clear hb1 hx2)
        | (go_at_call 46; refine (alive_any _).mono ?_; rintro e w1 ⟨rfl, hx1⟩; have hb1 := hb0.trans hx1; clear hb0 hx1))
      go_ret
      exact ⟨rfl, Hx0.out.trans hb7⟩
    · simp only [Bool.not_true, if_true] at Hc1 Hc2
      go_wp2_with (first
        | (go_at_call 44; refine (Hco.out _ (Hx0.out.trans hb6)).mono ?_; rintro e w7 ⟨rfl, hx7⟩; have hb7 := hb6.trans hx7; have hp7 := hp6.trans hx7; clear hx7)
        | (go_at_call 44; refine (Hcq.out _ (((Ext.refl w4).alloc (.cells #[.bool false, vint qA, vint qB, vint qC, vint qE, .slice qI qn qic] 67)).trans hq5)).mono ?_; rintro e w6 ⟨rfl, hx6⟩; have hb6 := hb5.trans hx6; have hp6 := hp5.trans hx6; clear hb5 hq5 hp5 hx6)
        | (go_at_call 44; refine (Hcp.out _ (((Ext.refl w3).alloc (.cells #[.bool false, vint pA, vint pB, vint pC, vint pE, .slice pI pn pic] 67)).trans hp4)).mono ?_; rintro e w5 ⟨rfl, hq5⟩; have hb5 := hb4.trans hq5; have hp5 := hp4.trans hq5; clear hb4 hp4)
        | (go_at_call 42; refine (Hc2.out _ (Hx0.out.trans hb3)).mono ?_; rintro e w4 ⟨qA, qB, qC, qE, qI, qn, qic, rfl, hcq, hx4⟩; have Hcq := Lib.hid hcq; have hb3' := hb3.trans hx4; have hb4 := hb3'.alloc (.cells #[.bool false, vint qA, vint qB, vint qC, vint qE, .slice qI qn qic] 67); have hp4 := hx4.alloc (.cells #[.bool false, vint qA, vint qB, vint qC, vint qE, .slice qI qn qic] 67); have koq := (Blk.new (W := w4) #[.bool false, vint qA, vint qB, vint qC, vint qE, .slice qI qn qic] 67); have q0 := koq.at_ 0 rfl; have q1 := koq.at_ 1 rfl; have q2 := koq.at_ 2 rfl; have q3 := koq.at_ 3 rfl; have q4 := koq.at_ 4 rfl; have q5 := koq.at_ 5 rfl; clear koq; clear hcq hb3)
        | (go_at_call 42; refine (Hc1.out _ (Hx0.out.trans hb2)).mono ?_; rintro e w3 ⟨pA, pB, pC, pE, pI, pn, pic, rfl, hcp, hx3⟩; have Hcp := Lib.hid hcp; have hb2' := hb2.trans hx3; have hb3 := hb2'.alloc (.cells #[.bool false, vint pA, vint pB, vint pC, vint pE, .slice pI pn pic] 67); have kop := (Blk.new (W := w3) #[.bool false, vint pA, vint pB, vint pC, vint pE, .slice pI pn pic] 67); have p0 := kop.at_ 0 rfl; have p1 := kop.at_ 1 rfl; have p2 := kop.at_ 2 rfl; have p3 := kop.at_ 3 rfl; have p4 := kop.at_ 4 rfl; have p5 := kop.at_ 5 rfl; clear kop; clear hcp hb2)
        | (go_at_call 17; refine (Hgr.out _ (Hx0.out.trans hb1)).mono ?_; rintro e w2 ⟨rfl, hx2⟩; have hb2 := hb1.trans hx2; clear hb1 hx2)
        | (go_at_call 46; refine (alive_any _).mono ?_; rintro e w1 ⟨rfl, hx1⟩; have hb1 := hb0.trans hx1; clear hb0 hx1))
      go_ret
      exact ⟨rfl, Hx0.out.trans hb7⟩
  · have hoc := hot rfl
    clear hot
    cases b
    · simp only [Bool.not_false, Bool.false_eq_true, if_false] at Hc1 Hc2 hoc
      subst hoc
      go_enter Try.func7, Try.ntmps7
      go_wp2_with (first
        | (go_at_call 44; refine (Hco.out _ (Hx0.out.trans hb6)).mono ?_; rintro e w7 ⟨rfl, hx7⟩; have hb7 := hb6.trans hx7; have hp7 := hp6.trans hx7; clear hx7)
        | (go_at_call 44; refine (Hcq.out _ (((Ext.refl w4).alloc (.cells #[.bool true, vint qA, vint qB, vint qC, vint qE, .slice qI qn qic] 67)).trans hq5)).mono ?_; rintro e w6 ⟨rfl, hx6⟩; have hb6 := hb5.trans hx6; have hp6 := hp5.trans hx6; clear hb5 hq5 hp5 hx6)
        | (go_at_call 44; refine (Hcp.out _ (((Ext.refl w3).alloc (.cells #[.bool true, vint pA, vint pB, vint pC, vint pE, .slice pI pn pic] 67)).trans hp4)).mono ?_; rintro e w5 ⟨rfl, hq5⟩; have hb5 := hb4.trans hq5; have hp5 := hp4.trans hq5; clear hb4 hp4)
        | (go_at_call 42; refine (Hc2.out _ (Hx0.out.trans hb3)).mono ?_; rintro e w4 ⟨qA, qB, qC, qE, qI, qn, qic, rfl, hcq, hx4⟩; have Hcq := Lib.hid hcq; have hb3' := hb3.trans hx4; have hb4 := hb3'.alloc (.cells #[.bool true, vint qA, vint qB, vint qC, vint qE, .slice qI qn qic] 67); have hp4 := hx4.alloc (.cells #[.bool true, vint qA, vint qB, vint qC, vint qE, .slice qI qn qic] 67); have koq := (Blk.new (W := w4) #[.bool true, vint qA, vint qB, vint qC, vint qE, .slice qI qn qic] 67); have q0 := koq.at_ 0 rfl; have q1 := koq.at_ 1 rfl; have q2 := koq.at_ 2 rfl; have q3 := koq.at_ 3 rfl; have q4 := koq.at_ 4 rfl; have q5 := koq.at_ 5 rfl; clear koq; clear hcq hb3)
        | (go_at_call 42; refine (Hc1.out _ (Hx0.out.trans hb2)).mono ?_; rintro e w3 ⟨pA, pB, pC, pE, pI, pn, pic, rfl, hcp, hx3⟩; have Hcp := Lib.hid hcp; have hb2' := hb2.trans hx3; have hb3 := hb2'.alloc (.cells #[.bool true, vint pA, vint pB, vint pC, vint pE, .slice pI pn pic] 67); have kop := (Blk.new (W := w3) #[.bool true, vint pA, vint pB, vint pC, vint pE, .slice pI pn pic] 67); have p0 := kop.at_ 0 rfl; have p1 := kop.at_ 1 rfl; have p2 := kop.at_ 2 rfl; have p3 := kop.at_ 3 rfl; have p4 := kop.at_ 4 rfl; have p5 := kop.at_ 5 rfl; clear kop; clear hcp hb2)
        | (go_at_call 17; refine (Hgr.out _ (Hx0.out.trans hb1)).mono ?_; rintro e w2 ⟨rfl, hx2⟩; have hb2 := hb1.trans hx2; clear hb1 hx2)
        | (go_at_call 46; refine (alive_any _).mono ?_; rintro e w1 ⟨rfl, hx1⟩; have hb1 := hb0.trans hx1; clear hb0 hx1))
      go_ret
      exact ⟨rfl, Hx0.out.trans hb7⟩
    · simp only [Bool.not_true, if_true] at Hc1 Hc2 hoc
      subst hoc
      go_enter Try.func7, Try.ntmps7
      go_wp2_with (first
        | (go_at_call 44; refine (Hco.out _ (Hx0.out.trans hb6)).mono ?_; rintro e w7 ⟨rfl, hx7⟩; have hb7 := hb6.trans hx7; have hp7 := hp6.trans hx7; clear hx7)
        | (go_at_call 44; refine (Hcq.out _ (((Ext.refl w4).alloc (.cells #[.bool false, vint qA, vint qB, vint qC, vint qE, .slice qI qn qic] 67)).trans hq5)).mono ?_; rintro e w6 ⟨rfl, hx6⟩; have hb6 := hb5.trans hx6; have hp6 := hp5.trans hx6; clear hb5 hq5 hp5 hx6)
        | (go_at_call 44; refine (Hcp.out _ (((Ext.refl w3).alloc (.cells #[.bool false, vint pA, vint pB, vint pC, vint pE, .slice pI pn pic] 67)).trans hp4)).mono ?_; rintro e w5 ⟨rfl, hq5⟩; have hb5 := hb4.trans hq5; have hp5 := hp4.trans hq5; clear hb4 hp4)
        | (go_at_call 42; refine (Hc2.out _ (Hx0.out.trans hb3)).mono ?_; rintro e w4 ⟨qA, qB, qC, qE, qI, qn, qic, rfl, hcq, hx4⟩; have Hcq := Lib.hid hcq; have hb3' := hb3.trans hx4; have hb4 := hb3'.alloc (.cells #[.bool false, vint qA, vint qB, vint qC, vint qE, .slice qI qn qic] 67); have hp4 := hx4.alloc (.cells #[.bool false, vint qA, vint qB, vint qC, vint qE, .slice qI qn qic] 67); have koq := (Blk.new (W := w4) #[.bool false, vint qA, vint qB, vint qC, vint qE, .slice qI qn qic] 67); have q0 := koq.at_ 0 rfl; have q1 := koq.at_ 1 rfl; have q2 := koq.at_ 2 rfl; have q3 := koq.at_ 3 rfl; have q4 := koq.at_ 4 rfl; have q5 := koq.at_ 5 rfl; clear koq; clear hcq hb3)
        | (go_at_call 42; refine (Hc1.out _ (Hx0.out.trans hb2)).mono ?_; rintro e w3 ⟨pA, pB, pC, pE, pI, pn, pic, rfl, hcp, hx3⟩; have Hcp := Lib.hid hcp; have hb2' := hb2.trans hx3; have hb3 := hb2'.alloc (.cells #[.bool false, vint pA, vint pB, vint pC, vint pE, .slice pI pn pic] 67); have kop := (Blk.new (W := w3) #[.bool false, vint pA, vint pB, vint pC, vint pE, .slice pI pn pic] 67); have p0 := kop.at_ 0 rfl; have p1 := kop.at_ 1 rfl; have p2 := kop.at_ 2 rfl; have p3 := kop.at_ 3 rfl; have p4 := kop.at_ 4 rfl; have p5 := kop.at_ 5 rfl; clear kop; clear hcp hb2)
        | (go_at_call 17; refine (Hgr.out _ (Hx0.out.trans hb1)).mono ?_; rintro e w2 ⟨rfl, hx2⟩; have hb2 := hb1.trans hx2; clear hb1 hx2)
        | (go_at_call 46; refine (alive_any _).mono ?_; rintro e w1 ⟨rfl, hx1⟩; have hb1 := hb0.trans hx1; clear hb0 hx1))
      go_ret
      exact ⟨rfl, Hx0.out.trans hb7⟩
theorem proved_law (A : Option Addr) (c : Nat) (ps : List (List Sp)) (B : Option Addr) (d : Nat) (hs : List Hg) (i k : Int) (o : Apr) (I : Option Addr) (ic : Nat) (w : World) (hA : PnRow w A ps) (hB : HRow w B hs) (hr : AprIn w o I ic) :
    Calls Try.prog 7 #[.agg #[.slice A ps.length c, .slice B hs.length d], .int .i64 i, .int .i64 k, o.val I ic] w fun e w' => e = .returned (.bool true) ∧ Ext w w' := by
  by_cases h : greatP ps hs ∨ 100 < o.ins.length
  · exact proved_law_out A c ps B d hs i k o I ic w hA h
  · have hg : ¬ greatP ps hs := fun h' => h (.inl h')
    have hm : o.ins.length ≤ 100 := by omega
    rcases two_cases ps hs i k with ⟨h1, ⟨a, b, rfl, rfl, ha, hb, hne⟩, _⟩ | ⟨h2, h3⟩
    · exact proved_law_in A c ps B d hs a b o I ic w hA hB hr hg hm h1 ha hb hne
    · exact proved_law_bad A c ps B d hs i k o I ic w hA hB hg hm h2 h3
end Go.Proofs.Yteilglljigjefaa
