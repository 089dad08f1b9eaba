/- Clash: by the code. -/
import Derived.Test.YtebkhdhhajjhfaaGreatT28
namespace Go.Proofs.YtebkhdhhajjhfaaGreat
open Go.RowKit
theorem results_apart2 {fn : Func} {t s : Tmp} (h : fn.results = #[.cell t 111, .tmp s]) (tmps : Array Value) (w : World) {g : Nat} {u0 u1 u2 u3 u4 u5 : Value} (h8 : tmps.getD t undef = .pointer (some ⟨g, 0, none⟩)) (hb : Blk w g [u0, u1, u2, u3, u4, u5]) :
    (results fn tmps).run Tryz.prog w = .ok (.tuple #[.agg #[u0, u1, u2, u3, u4, u5], tmps.getD s undef]) w := by
  rw [Array.getD_eq_getD_getElem?] at h8
  have c0 := hb.c 0 _ rfl
  have c1 := hb.c 1 _ rfl
  have c2 := hb.c 2 _ rfl
  have c3 := hb.c 3 _ rfl
  have c4 := hb.c 4 _ rfl
  have c5 := hb.c 5 _ rfl
  simp [results, h, loadVar, h8, c0, c1, c2, c3, c4, c5, loadCells, loadCellsFrom, asAddr, Addr.add_lit, Result.andThen, go_sem]
def aprZ : Apr := ⟨false, 0, 0, 0, 0, []⟩
set_option maxRecDepth 100000 in
set_option maxHeartbeats 8000000 in
theorem clash_bad (A : Option Addr) (c : Nat) (ps : List (List Sp)) (B : Option Addr) (d : Nat) (hs : List Hg) (i k : Int) (w : World) (hL : Lk w A ps B hs) (h2 : twoE ps hs i k = 2 ∨ twoE ps hs i k = 50) (h3 : ¬ (linkP ps hs ∧ twoP ps i k)) :
    Calls Tryz.prog 42 #[.agg #[.slice A ps.length c, .slice B hs.length d], .int .i64 i, .int .i64 k] w fun e w' => e = .returned (.tuple #[aprZ.val none 0, .int .i64 (twoE ps hs i k)]) ∧ Ext w w' := by
  have ht := fun w' (he : Ext w w') => two_err A c ps B d hs i k w' (hL.ext he) h3
  have hne : ¬ twoE ps hs i k = 0 := by omega
  have d1 : (twoE ps hs i k != 0) = true := by simpa using hne
  have Ht := Lib.hid ht
  clear ht hL h2 hne h3
  generalize twoE ps hs i k = E at *
  generalize ps.length = np at *
  generalize hs.length = nh at *
  have kl : Blk ((w.alloc (.cells #[.slice A np c, .slice B nh d] 67)).alloc (.cells #[.bool false, .int .i64 0, .int .i64 0, .int .i64 0, .int .i64 0, .slice none 0 0] 111)) w.heap.size [.slice A np c, .slice B nh d] := (Blk.new _ _).ext ((Ext.refl _).alloc _)
  have kz : Blk ((w.alloc (.cells #[.slice A np c, .slice B nh d] 67)).alloc (.cells #[.bool false, .int .i64 0, .int .i64 0, .int .i64 0, .int .i64 0, .slice none 0 0] 111)) (w.heap.size + 1) [.bool false, .int .i64 0, .int .i64 0, .int .i64 0, .int .i64 0, .slice none 0 0] := Blk.new' (cs := #[.bool false, .int .i64 0, .int .i64 0, .int .i64 0, .int .i64 0, .slice none 0 0]) (by simp)
  have b0 := kl.at_ 0 rfl
  have b1 := kl.at_ 1 rfl
  have r0 := kz.at_ 0 rfl
  have r1 := kz.at_ 1 rfl
  have r2 := kz.at_ 2 rfl
  have r3 := kz.at_ 3 rfl
  have r4 := kz.at_ 4 rfl
  have r5 := kz.at_ 5 rfl
  have rf := fun j => kz.free j
  have hx0 : Ext w ((w.alloc (.cells #[.slice A np c, .slice B nh d] 67)).alloc (.cells #[.bool false, .int .i64 0, .int .i64 0, .int .i64 0, .int .i64 0, .slice none 0 0] 111)) := ((Ext.refl _).alloc _).alloc _
  have Hx0 := Lib.hid hx0
  have Kz := Lib.hid kz
  clear kl hx0 kz
  go_enter Tryz.func42, Tryz.ntmps42
  go_wp2_with (go_at_call 77; refine (Ht.out _ Hx0.out).mono ?_; rintro e w1 ⟨rfl, hx1⟩; have hxx := Hx0.out.trans hx1; replace b0 : ∀ w', Ext w1 w' → _ := fun w' he => b0 w' (hx1.trans he); replace b1 : ∀ w', Ext w1 w' → _ := fun w' he => b1 w' (hx1.trans he); replace r0 : ∀ w', Ext w1 w' → _ := fun w' he => r0 w' (hx1.trans he); replace r1 : ∀ w', Ext w1 w' → _ := fun w' he => r1 w' (hx1.trans he); replace r2 : ∀ w', Ext w1 w' → _ := fun w' he => r2 w' (hx1.trans he); replace r3 : ∀ w', Ext w1 w' → _ := fun w' he => r3 w' (hx1.trans he); replace r4 : ∀ w', Ext w1 w' → _ := fun w' he => r4 w' (hx1.trans he); replace r5 : ∀ w', Ext w1 w' → _ := fun w' he => r5 w' (hx1.trans he); replace rf : ∀ j w', Ext w1 w' → _ := fun j w' he => rf j w' (hx1.trans he))
  have kf := (((((((Kz.out.ext hx1).set (j := 0) (by simp) (.bool false)).set (j := 1) (by simp) (.int .i64 0)).set (j := 2) (by simp) (.int .i64 0)).set (j := 3) (by simp) (.int .i64 0)).set (j := 4) (by simp) (.int .i64 0)).set (j := 5) (by simp) (.slice none 0 0))
  refine bodyPost_ret (results_apart2 rfl _ _ rfl kf) rfl ⟨rfl, ?_⟩
  exact ((((((hxx.setCell (Nat.le_succ _) _).setCell (Nat.le_succ _) _).setCell (Nat.le_succ _) _).setCell (Nat.le_succ _) _).setCell (Nat.le_succ _) _).setCell (Nat.le_succ _) _)
/-- A store elsewhere leaves a proof as it is. -/
theorem AprIn.far {w : World} {r : Apr} {I : Option Addr} {ic : Nat} (h : AprIn w r I ic) {p : Addr} (hp : ∀ ad, I = some ad → 0 < r.ins.length → ad.block ≠ p.block) (u : Value) : AprIn (w.setCell p u) r I ic := by
  refine ⟨fun k hk => ?_, h.cap, h.len⟩
  obtain ⟨ad, rfl, hc⟩ := h.ins k hk
  refine ⟨ad, rfl, ?_⟩
  rw [World.cell?_setCell_other _ _ _ _ (fun e => hp ad rfl (by simp at hk; omega) (by rw [e]; unfold Addr.add; split <;> rfl)), hc]
set_option maxRecDepth 100000 in
set_option maxHeartbeats 8000000 in
theorem clash_good (A : Option Addr) (c : Nat) (ps : List (List Sp)) (B : Option Addr) (d : Nat) (hs : List Hg) (i k : Nat) (w : World) (hL : Lk w A ps B hs) (hl : linkP ps hs) (hi : i < ps.length) (hk : k < ps.length) (hne : i ≠ k) :
    Calls Tryz.prog 42 #[.agg #[.slice A ps.length c, .slice B hs.length d], .int .i64 i, .int .i64 k] w fun e w' => ∃ r I ic, e = .returned (.tuple #[r.val I ic, .int .i64 (if clashB (pcrn ps hs i) (pcrn ps hs k) = true then 51 else 0)]) ∧ AprIn w' r I ic ∧ Ext w w' ∧ rightP r (pcrn ps hs i) (pcrn ps hs k) := by
  have ht := fun w' (he : Ext w w') => two_in A c ps B d hs i k w' (hL.ext he) hl hi hk hne
  have pi := link_pose hl hi
  have pk := link_pose hl hk
  have qi := (linkP_iff.1 hl).2.2.1 i hi
  have qk := (linkP_iff.1 hl).2.2.1 k hk
  have hat := fun (X Y : Option Addr) (x y : Nat) w' (hX : CRow w' X (pcrn ps hs i)) (hY : CRow w' Y (pcrn ps hs k)) => apart_any X x (pcrn ps hs i) Y y (pcrn ps hs k) w' hX hY (pcrn_ok hl hi) (pcrn_ok hl hk)
    (fun j hj h => thr_right1 pi qi (by rw [pcrn_len] at hj; exact hj) h) (fun j hj h => thr_right2 pk qk (by rw [pcrn_len] at hj; exact hj) h)
  have htl := fun r (h : rightP r (pcrn ps hs i) (pcrn ps hs k)) => right_tells pi pk qi qk h
  change ∀ r, rightP r (pcrn ps hs i) (pcrn ps hs k) → clashB (pcrn ps hs i) (pcrn ps hs k) = !r.clear at htl
  have Ht := Lib.hid ht
  have Hat := Lib.hid hat
  clear ht hat hL hl hi hk hne pi pk qi qk
  generalize pcrn ps hs i = C1 at *
  generalize pcrn ps hs k = C2 at *
  generalize ps.length = np at *
  generalize hs.length = nh at *
  generalize C1.length = m1 at *
  generalize C2.length = m2 at *
  have kl : Blk ((w.alloc (.cells #[.slice A np c, .slice B nh d] 67)).alloc (.cells #[.bool false, .int .i64 0, .int .i64 0, .int .i64 0, .int .i64 0, .slice none 0 0] 111)) w.heap.size [.slice A np c, .slice B nh d] := (Blk.new _ _).ext ((Ext.refl _).alloc _)
  have kz : Blk ((w.alloc (.cells #[.slice A np c, .slice B nh d] 67)).alloc (.cells #[.bool false, .int .i64 0, .int .i64 0, .int .i64 0, .int .i64 0, .slice none 0 0] 111)) (w.heap.size + 1) [.bool false, .int .i64 0, .int .i64 0, .int .i64 0, .int .i64 0, .slice none 0 0] := Blk.new' (cs := #[.bool false, .int .i64 0, .int .i64 0, .int .i64 0, .int .i64 0, .slice none 0 0]) (by simp)
  have b0 := kl.at_ 0 rfl
  have b1 := kl.at_ 1 rfl
  have r0 := kz.at_ 0 rfl
  have r1 := kz.at_ 1 rfl
  have r2 := kz.at_ 2 rfl
  have r3 := kz.at_ 3 rfl
  have r4 := kz.at_ 4 rfl
  have r5 := kz.at_ 5 rfl
  have rf := fun j => kz.free j
  have hx0 : Ext w ((w.alloc (.cells #[.slice A np c, .slice B nh d] 67)).alloc (.cells #[.bool false, .int .i64 0, .int .i64 0, .int .i64 0, .int .i64 0, .slice none 0 0] 111)) := ((Ext.refl _).alloc _).alloc _
  have Hx0 := Lib.hid hx0
  have Kz := Lib.hid kz
  clear kl hx0 kz
  cases hR : clashB C1 C2
  · have Htl := Lib.hid (show ∀ r, rightP r C1 C2 → r.clear = true from fun r h => by have := htl r h; rw [hR] at this; exact (show ∀ b : Bool, false = !b → b = true by decide) _ this)
    clear htl hR
    go_enter Tryz.func42, Tryz.ntmps42
    go_wp2_with (first
      | (go_at_call 77; refine (Ht.out _ Hx0.out).mono ?_; rintro e w1 ⟨X, x, Y, y, rfl, hX, hY, hx1⟩; have hxx := Hx0.out.trans hx1; replace b0 : ∀ w', Ext w1 w' → _ := fun w' he => b0 w' (hx1.trans he); replace b1 : ∀ w', Ext w1 w' → _ := fun w' he => b1 w' (hx1.trans he); replace r0 : ∀ w', Ext w1 w' → _ := fun w' he => r0 w' (hx1.trans he); replace r1 : ∀ w', Ext w1 w' → _ := fun w' he => r1 w' (hx1.trans he); replace r2 : ∀ w', Ext w1 w' → _ := fun w' he => r2 w' (hx1.trans he); replace r3 : ∀ w', Ext w1 w' → _ := fun w' he => r3 w' (hx1.trans he); replace r4 : ∀ w', Ext w1 w' → _ := fun w' he => r4 w' (hx1.trans he); replace r5 : ∀ w', Ext w1 w' → _ := fun w' he => r5 w' (hx1.trans he); replace rf : ∀ j w', Ext w1 w' → _ := fun j w' he => rf j w' (hx1.trans he))
      | (go_at_call 78; refine (Hat.out X Y x y _ hX hY).mono ?_; rintro e w2 ⟨⟨rc, rA, rB, rC, rE, ri⟩, I, ic, rfl, hin, hx2, hright, hnew⟩; have hcl : rc = true := Htl.out _ hright; subst hcl; have Hr := Lib.hid (And.intro hin (And.intro hright hnew)); clear hin hright hnew; have hxy := hxx.trans hx2; have hx12 := hx1.trans hx2; replace b0 : ∀ w', Ext w2 w' → _ := fun w' he => b0 w' (hx2.trans he); replace b1 : ∀ w', Ext w2 w' → _ := fun w' he => b1 w' (hx2.trans he); replace r0 : ∀ w', Ext w2 w' → _ := fun w' he => r0 w' (hx2.trans he); replace r1 : ∀ w', Ext w2 w' → _ := fun w' he => r1 w' (hx2.trans he); replace r2 : ∀ w', Ext w2 w' → _ := fun w' he => r2 w' (hx2.trans he); replace r3 : ∀ w', Ext w2 w' → _ := fun w' he => r3 w' (hx2.trans he); replace r4 : ∀ w', Ext w2 w' → _ := fun w' he => r4 w' (hx2.trans he); replace r5 : ∀ w', Ext w2 w' → _ := fun w' he => r5 w' (hx2.trans he); replace rf : ∀ j w', Ext w2 w' → _ := fun j w' he => rf j w' (hx2.trans he); have k9 := (Blk.new (W := w2) #[.bool true, .int .i64 rA, .int .i64 rB, .int .i64 rC, .int .i64 rE, .slice I ri.length ic] 111); have q0 := k9.at_ 0 rfl; have q1 := k9.at_ 1 rfl; have q2 := k9.at_ 2 rfl; have q3 := k9.at_ 3 rfl; have q4 := k9.at_ 4 rfl; have q5 := k9.at_ 5 rfl; clear k9))
    have kf := ((((((((Kz.out.ext hx12).ext ((Ext.refl w2).alloc (.cells #[.bool true, .int .i64 rA, .int .i64 rB, .int .i64 rC, .int .i64 rE, .slice I ri.length ic] 111))).set (j := 0) (by simp) (.bool true)).set (j := 1) (by simp) (.int .i64 rA)).set (j := 2) (by simp) (.int .i64 rB)).set (j := 3) (by simp) (.int .i64 rC)).set (j := 4) (by simp) (.int .i64 rE)).set (j := 5) (by simp) (.slice I ri.length ic))
    have hxf := (((((((hxy.alloc (.cells #[.bool true, .int .i64 rA, .int .i64 rB, .int .i64 rC, .int .i64 rE, .slice I ri.length ic] 111)).setCell (p := ⟨w.heap.size + 1, 0, none⟩) (Nat.le_succ _) (.bool true)).setCell (p := ⟨w.heap.size + 1, 1, none⟩) (Nat.le_succ _) (.int .i64 rA)).setCell (p := ⟨w.heap.size + 1, 2, none⟩) (Nat.le_succ _) (.int .i64 rB)).setCell (p := ⟨w.heap.size + 1, 3, none⟩) (Nat.le_succ _) (.int .i64 rC)).setCell (p := ⟨w.heap.size + 1, 4, none⟩) (Nat.le_succ _) (.int .i64 rE)).setCell (p := ⟨w.heap.size + 1, 5, none⟩) (Nat.le_succ _) (.slice I ri.length ic))
    have hge : w.heap.size + 1 + 1 ≤ w1.heap.size := by
      have := hx1.le
      simp at this
      omega
    have hfar : ∀ ad, I = some ad → 0 < ri.length → ad.block ≠ w.heap.size + 1 := fun ad e _ => by
      have := Hr.out.2.2 ad e
      omega
    refine bodyPost_ret (results_apart2 rfl _ _ rfl kf) rfl ⟨⟨true, rA, rB, rC, rE, ri⟩, I, ic, rfl, ?_, hxf, Hr.out.2.1⟩
    exact (((((((Hr.out.1.ext ((Ext.refl w2).alloc _)).far (p := ⟨w.heap.size + 1, 0, none⟩) hfar (.bool true)).far (p := ⟨w.heap.size + 1, 1, none⟩) hfar (.int .i64 rA)).far (p := ⟨w.heap.size + 1, 2, none⟩) hfar (.int .i64 rB)).far (p := ⟨w.heap.size + 1, 3, none⟩) hfar (.int .i64 rC)).far (p := ⟨w.heap.size + 1, 4, none⟩) hfar (.int .i64 rE)).far (p := ⟨w.heap.size + 1, 5, none⟩) hfar (.slice I ri.length ic))
  · have Htl := Lib.hid (show ∀ r, rightP r C1 C2 → r.clear = false from fun r h => by have := htl r h; rw [hR] at this; exact (show ∀ b : Bool, true = !b → b = false by decide) _ this)
    clear htl hR
    go_enter Tryz.func42, Tryz.ntmps42
    go_wp2_with (first
      | (go_at_call 77; refine (Ht.out _ Hx0.out).mono ?_; rintro e w1 ⟨X, x, Y, y, rfl, hX, hY, hx1⟩; have hxx := Hx0.out.trans hx1; replace b0 : ∀ w', Ext w1 w' → _ := fun w' he => b0 w' (hx1.trans he); replace b1 : ∀ w', Ext w1 w' → _ := fun w' he => b1 w' (hx1.trans he); replace r0 : ∀ w', Ext w1 w' → _ := fun w' he => r0 w' (hx1.trans he); replace r1 : ∀ w', Ext w1 w' → _ := fun w' he => r1 w' (hx1.trans he); replace r2 : ∀ w', Ext w1 w' → _ := fun w' he => r2 w' (hx1.trans he); replace r3 : ∀ w', Ext w1 w' → _ := fun w' he => r3 w' (hx1.trans he); replace r4 : ∀ w', Ext w1 w' → _ := fun w' he => r4 w' (hx1.trans he); replace r5 : ∀ w', Ext w1 w' → _ := fun w' he => r5 w' (hx1.trans he); replace rf : ∀ j w', Ext w1 w' → _ := fun j w' he => rf j w' (hx1.trans he))
      | (go_at_call 78; refine (Hat.out X Y x y _ hX hY).mono ?_; rintro e w2 ⟨⟨rc, rA, rB, rC, rE, ri⟩, I, ic, rfl, hin, hx2, hright, hnew⟩; have hcl : rc = false := Htl.out _ hright; subst hcl; have Hr := Lib.hid (And.intro hin (And.intro hright hnew)); clear hin hright hnew; have hxy := hxx.trans hx2; have hx12 := hx1.trans hx2; replace b0 : ∀ w', Ext w2 w' → _ := fun w' he => b0 w' (hx2.trans he); replace b1 : ∀ w', Ext w2 w' → _ := fun w' he => b1 w' (hx2.trans he); replace r0 : ∀ w', Ext w2 w' → _ := fun w' he => r0 w' (hx2.trans he); replace r1 : ∀ w', Ext w2 w' → _ := fun w' he => r1 w' (hx2.trans he); replace r2 : ∀ w', Ext w2 w' → _ := fun w' he => r2 w' (hx2.trans he); replace r3 : ∀ w', Ext w2 w' → _ := fun w' he => r3 w' (hx2.trans he); replace r4 : ∀ w', Ext w2 w' → _ := fun w' he => r4 w' (hx2.trans he); replace r5 : ∀ w', Ext w2 w' → _ := fun w' he => r5 w' (hx2.trans he); replace rf : ∀ j w', Ext w2 w' → _ := fun j w' he => rf j w' (hx2.trans he); have k9 := (Blk.new (W := w2) #[.bool false, .int .i64 rA, .int .i64 rB, .int .i64 rC, .int .i64 rE, .slice I ri.length ic] 111); have q0 := k9.at_ 0 rfl; have q1 := k9.at_ 1 rfl; have q2 := k9.at_ 2 rfl; have q3 := k9.at_ 3 rfl; have q4 := k9.at_ 4 rfl; have q5 := k9.at_ 5 rfl; clear k9))
    have kf := ((((((((Kz.out.ext hx12).ext ((Ext.refl w2).alloc (.cells #[.bool false, .int .i64 rA, .int .i64 rB, .int .i64 rC, .int .i64 rE, .slice I ri.length ic] 111))).set (j := 0) (by simp) (.bool false)).set (j := 1) (by simp) (.int .i64 rA)).set (j := 2) (by simp) (.int .i64 rB)).set (j := 3) (by simp) (.int .i64 rC)).set (j := 4) (by simp) (.int .i64 rE)).set (j := 5) (by simp) (.slice I ri.length ic))
    have hxf := (((((((hxy.alloc (.cells #[.bool false, .int .i64 rA, .int .i64 rB, .int .i64 rC, .int .i64 rE, .slice I ri.length ic] 111)).setCell (p := ⟨w.heap.size + 1, 0, none⟩) (Nat.le_succ _) (.bool false)).setCell (p := ⟨w.heap.size + 1, 1, none⟩) (Nat.le_succ _) (.int .i64 rA)).setCell (p := ⟨w.heap.size + 1, 2, none⟩) (Nat.le_succ _) (.int .i64 rB)).setCell (p := ⟨w.heap.size + 1, 3, none⟩) (Nat.le_succ _) (.int .i64 rC)).setCell (p := ⟨w.heap.size + 1, 4, none⟩) (Nat.le_succ _) (.int .i64 rE)).setCell (p := ⟨w.heap.size + 1, 5, none⟩) (Nat.le_succ _) (.slice I ri.length ic))
    have hge : w.heap.size + 1 + 1 ≤ w1.heap.size := by
      have := hx1.le
      simp at this
      omega
    have hfar : ∀ ad, I = some ad → 0 < ri.length → ad.block ≠ w.heap.size + 1 := fun ad e _ => by
      have := Hr.out.2.2 ad e
      omega
    refine bodyPost_ret (results_apart2 rfl _ _ rfl kf) rfl ⟨⟨false, rA, rB, rC, rE, ri⟩, I, ic, rfl, ?_, hxf, Hr.out.2.1⟩
    exact (((((((Hr.out.1.ext ((Ext.refl w2).alloc _)).far (p := ⟨w.heap.size + 1, 0, none⟩) hfar (.bool false)).far (p := ⟨w.heap.size + 1, 1, none⟩) hfar (.int .i64 rA)).far (p := ⟨w.heap.size + 1, 2, none⟩) hfar (.int .i64 rB)).far (p := ⟨w.heap.size + 1, 3, none⟩) hfar (.int .i64 rC)).far (p := ⟨w.heap.size + 1, 4, none⟩) hfar (.int .i64 rE)).far (p := ⟨w.heap.size + 1, 5, none⟩) hfar (.slice I ri.length ic))
end Go.Proofs.YtebkhdhhajjhfaaGreat
