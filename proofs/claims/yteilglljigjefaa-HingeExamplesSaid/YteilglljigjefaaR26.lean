/- Clash: by the code. -/
import Derived.Test.YteilglljigjefaaR25
namespace Go.Proofs.Yteilglljigjefaa
open Go.RowKit
theorem results_apart2 {fn : Func} {t s : Tmp} (h : fn.results = #[.cell t 67, .tmp s]) (tmps : Array Value) (w : World) {g : Nat} {u0 u1 u2 u3 u4 u5 : Value} (h8 : tmps.getD t undef = .pointer (some ⟨g, 0, none⟩)) (hb : Blk w g [u0, u1, u2, u3, u4, u5]) :
    (results fn tmps).run Try.prog w = .ok (.tuple #[.agg #[u0, u1, u2, u3, u4, u5], tmps.getD s undef]) w := by
  rw [Array.getD_eq_getD_getElem?] at h8
  have c0 := hb.c 0 _ rfl
  have c1 := hb.c 1 _ rfl
  have c2 := hb.c 2 _ rfl
  have c3 := hb.c 3 _ rfl
  have c4 := hb.c 4 _ rfl
  have c5 := hb.c 5 _ rfl
  simp [results, h, loadVar, h8, c0, c1, c2, c3, c4, c5, loadCells, loadCellsFrom, asAddr, Addr.add_lit, Result.andThen, go_sem]
def aprZ : Apr := ⟨false, 0, 0, 0, 0, []⟩
set_option maxRecDepth 100000 in
set_option maxHeartbeats 8000000 in
theorem clash_bad (A : Option Addr) (c : Nat) (ps : List (List Sp)) (B : Option Addr) (d : Nat) (hs : List Hg) (i k : Int) (w : World) (hL : Lk w A ps B hs) (h2 : twoE ps hs i k = 2 ∨ twoE ps hs i k = 50) (h3 : ¬ (linkP ps hs ∧ twoP ps i k)) :
    Calls Try.prog 42 #[.agg #[.slice A ps.length c, .slice B hs.length d], .int .i64 i, .int .i64 k] w fun e w' => e = .returned (.tuple #[aprZ.val none 0, .int .i64 (twoE ps hs i k)]) ∧ Ext w w' := by
  have ht := fun w' (he : Ext w w') => two_err A c ps B d hs i k w' (hL.ext he) h3
  have hne : ¬ twoE ps hs i k = 0 := by omega
  have d1 : (twoE ps hs i k != 0) = true := by simpa using hne
  have Ht := Lib.hid ht
  clear ht hL h2 hne h3
  generalize twoE ps hs i k = E at *
  generalize ps.length = np at *
  generalize hs.length = nh at *
  have kl : Blk ((w.alloc (.cells #[.slice A np c, .slice B nh d] 25)).alloc (.cells #[.bool false, .int .i64 0, .int .i64 0, .int .i64 0, .int .i64 0, .slice none 0 0] 67)) w.heap.size [.slice A np c, .slice B nh d] := (Blk.new _ _).ext ((Ext.refl _).alloc _)
  have kz : Blk ((w.alloc (.cells #[.slice A np c, .slice B nh d] 25)).alloc (.cells #[.bool false, .int .i64 0, .int .i64 0, .int .i64 0, .int .i64 0, .slice none 0 0] 67)) (w.heap.size + 1) [.bool false, .int .i64 0, .int .i64 0, .int .i64 0, .int .i64 0, .slice none 0 0] := Blk.new' (cs := #[.bool false, .int .i64 0, .int .i64 0, .int .i64 0, .int .i64 0, .slice none 0 0]) (by simp)
  have b0 := kl.at_ 0 rfl
  have b1 := kl.at_ 1 rfl
  have r0 := kz.at_ 0 rfl
  have r1 := kz.at_ 1 rfl
  have r2 := kz.at_ 2 rfl
  have r3 := kz.at_ 3 rfl
  have r4 := kz.at_ 4 rfl
  have r5 := kz.at_ 5 rfl
  have rf := fun j => kz.free j
  have hx0 : Ext w ((w.alloc (.cells #[.slice A np c, .slice B nh d] 25)).alloc (.cells #[.bool false, .int .i64 0, .int .i64 0, .int .i64 0, .int .i64 0, .slice none 0 0] 67)) := ((Ext.refl _).alloc _).alloc _
  have Hx0 := Lib.hid hx0
  have Kz := Lib.hid kz
  clear kl hx0 kz
  go_enter Try.func42, Try.ntmps42
  go_wp2_with (go_at_call 73; refine (Ht.out _ Hx0.out).mono ?_; rintro e w1 ⟨rfl, hx1⟩; have hxx := Hx0.out.trans hx1; replace b0 : ∀ w', Ext w1 w' → _ := fun w' he => b0 w' (hx1.trans he); replace b1 : ∀ w', Ext w1 w' → _ := fun w' he => b1 w' (hx1.trans he); replace r0 : ∀ w', Ext w1 w' → _ := fun w' he => r0 w' (hx1.trans he); replace r1 : ∀ w', Ext w1 w' → _ := fun w' he => r1 w' (hx1.trans he); replace r2 : ∀ w', Ext w1 w' → _ := fun w' he => r2 w' (hx1.trans he); replace r3 : ∀ w', Ext w1 w' → _ := fun w' he => r3 w' (hx1.trans he); replace r4 : ∀ w', Ext w1 w' → _ := fun w' he => r4 w' (hx1.trans he); replace r5 : ∀ w', Ext w1 w' → _ := fun w' he => r5 w' (hx1.trans he); replace rf : ∀ j w', Ext w1 w' → _ := fun j w' he => rf j w' (hx1.trans he))
  have kf := (((((((Kz.out.ext hx1).set (j := 0) (by simp) (.bool false)).set (j := 1) (by simp) (.int .i64 0)).set (j := 2) (by simp) (.int .i64 0)).set (j := 3) (by simp) (.int .i64 0)).set (j := 4) (by simp) (.int .i64 0)).set (j := 5) (by simp) (.slice none 0 0))
  refine bodyPost_ret (results_apart2 rfl _ _ rfl kf) rfl ⟨rfl, ?_⟩
  exact ((((((hxx.setCell (Nat.le_succ _) _).setCell (Nat.le_succ _) _).setCell (Nat.le_succ _) _).setCell (Nat.le_succ _) _).setCell (Nat.le_succ _) _).setCell (Nat.le_succ _) _)
/-- A store elsewhere leaves a proof as it is. -/
theorem AprIn.far {w : World} {r : Apr} {I : Option Addr} {ic : Nat} (h : AprIn w r I ic) {p : Addr} (hp : ∀ ad, I = some ad → 0 < r.ins.length → ad.block ≠ p.block) (u : Value) : AprIn (w.setCell p u) r I ic := by
  refine ⟨fun k hk => ?_, h.cap, h.len⟩
  obtain ⟨ad, rfl, hc⟩ := h.ins k hk
  refine ⟨ad, rfl, ?_⟩
  rw [World.cell?_setCell_other _ _ _ _ (fun e => hp ad rfl (by simp at hk; omega) (by rw [e]; unfold Addr.add; split <;> rfl)), hc]
set_option maxRecDepth 100000 in
set_option maxHeartbeats 8000000 in
theorem clash_good (A : Option Addr) (c : Nat) (ps : List (List Sp)) (B : Option Addr) (d : Nat) (hs : List Hg) (i k : Nat) (w : World) (hL : Lk w A ps B hs) (hl : linkP ps hs) (hi : i < ps.length) (hk : k < ps.length) (hne : i ≠ k) :
    Calls Try.prog 42 #[.agg #[.slice A ps.length c, .slice B hs.length d], .int .i64 i, .int .i64 k] w fun e w' => ∃ r I ic, e = .returned (.tuple #[r.val I ic, .int .i64 (if clashB (pcrn ps hs i) (pcrn ps hs k) = true then 51 else 0)]) ∧ AprIn w' r I ic ∧ Ext w w' ∧ rightP r (pcrn ps hs i) (pcrn ps hs k) := by
  have ht := fun w' (he : Ext w w') => two_in A c ps B d hs i k w' (hL.ext he) hl hi hk hne
  have pi := link_pose hl hi
  have pk := link_pose hl hk
  have qi := (linkP_iff.1 hl).2.2.1 i hi
  have qk := (linkP_iff.1 hl).2.2.1 k hk
  have hat := fun (X Y : Option Addr) (x y : Nat) w' (hX : CRow w' X (pcrn ps hs i)) (hY : CRow w' Y (pcrn ps hs k)) => apart_any X x (pcrn ps hs i) Y y (pcrn ps hs k) w' hX hY (pcrn_ok hl hi) (pcrn_ok hl hk)
    (fun j hj h => thr_right1 pi qi (by rw [pcrn_len] at hj; exact hj) h) (fun j hj h => thr_right2 pk qk (by rw [pcrn_len] at hj; exact hj) h)
  have htl := fun r (h : rightP r (pcrn ps hs i) (pcrn ps hs k)) => right_tells pi pk qi qk h
  change ∀ r, rightP r (pcrn ps hs i) (pcrn ps hs k) → clashB (pcrn ps hs i) (pcrn ps hs k) = !r.clear at htl
  have Ht := Lib.hid ht
  have Hat := Lib.hid hat
  clear ht hat hL hl hi hk hne pi pk qi qk
  generalize pcrn ps hs i = C1 at *
  generalize pcrn ps hs k = C2 at *
  generalize ps.length = np at *
  generalize hs.length = nh at *
  generalize C1.length = m1 at *
  generalize C2.length = m2 at *
  have kl : Blk ((w.alloc (.cells #[.slice A np c, .slice B nh d] 25)).alloc (.cells #[.bool false, .int .i64 0, .int .i64 0, .int .i64 0, .int .i64 0, .slice none 0 0] 67)) w.heap.size [.slice A np c, .slice B nh d] := (Blk.new _ _).ext ((Ext.refl _).alloc _)
  have kz : Blk ((w.alloc (.cells #[.slice A np c, .slice B nh d] 25)).alloc (.cells #[.bool false, .int .i64 0, .int .i64 0, .int .i64 0, .int .i64 0, .slice none 0 0] 67)) (w.heap.size + 1) [.bool false, .int .i64 0, .int .i64 0, .int .i64 0, .int .i64 0, .slice none 0 0] := Blk.new' (cs := #[.bool false, .int .i64 0, .int .i64 0, .int .i64 0, .int .i64 0, .slice none 0 0]) (by simp)
  have b0 := kl.at_ 0 rfl
  have b1 := kl.at_ 1 rfl
  have r0 := kz.at_ 0 rfl
  have r1 := kz.at_ 1 rfl
  have r2 := kz.at_ 2 rfl
  have r3 := kz.at_ 3 rfl
  have r4 := kz.at_ 4 rfl
  have r5 := kz.at_ 5 rfl
  have rf := fun j => kz.free j
  have hx0 : Ext w ((w.alloc (.cells #[.slice A np c, .slice B nh d] 25)).alloc (.cells #[.bool false, .int .i64 0, .int .i64 0, .int .i64 0, .int .i64 0, .slice none 0 0] 67)) := ((Ext.refl _).alloc _).alloc _
  have Hx0 := Lib.hid hx0
  have Kz := Lib.hid kz
  clear kl hx0 kz
  cases hR : clashB C1 C2
  · have Htl := Lib.hid (show ∀ r, rightP r C1 C2 → r.clear = true from fun r h => by have := htl r h; rw [hR] at this; exact (show ∀ b : Bool, false = !b → b = true by decide) _ this)
    clear htl hR
    go_enter Try.func42, Try.ntmps42
    go_wp2_with (first
      | (go_at_call 73; refine (Ht.out _ Hx0.out).mono ?_; rintro e w1 ⟨X, x, Y, y, rfl, hX, hY, hx1⟩; have hxx := Hx0.out.trans hx1; replace b0 : ∀ w', Ext w1 w' → _ := fun w' he => b0 w' (hx1.trans he); replace b1 : ∀ w', Ext w1 w' → _ := fun w' he => b1 w' (hx1.trans he); replace r0 : ∀ w', Ext w1 w' → _ := fun w' he => r0 w' (hx1.trans he); replace r1 : ∀ w', Ext w1 w' → _ := fun w' he => r1 w' (hx1.trans he); replace r2 : ∀ w', Ext w1 w' → _ := fun w' he => r2 w' (hx1.trans he); replace r3 : ∀ w', Ext w1 w' → _ := fun w' he => r3 w' (hx1.trans he); replace r4 : ∀ w', Ext w1 w' → _ := fun w' he => r4 w' (hx1.trans he); replace r5 : ∀ w', Ext w1 w' → _ := fun w' he => r5 w' (hx1.trans he); replace rf : ∀ j w', Ext w1 w' → _ := fun j w' he => rf j w' (hx1.trans he))
      | (go_at_call 74; refine (Hat.out X Y x y _ hX hY).mono ?_; rintro e w2 ⟨⟨rc, rA, rB, rC, rE, ri⟩, I, ic, rfl, hin, hx2, hright, hnew⟩; have hcl : rc = true := Htl.out _ hright; subst hcl; have Hr := Lib.hid (And.intro hin (And.intro hright hnew)); clear hin hright hnew; have hxy := hxx.trans hx2; have hx12 := hx1.trans hx2; replace b0 : ∀ w', Ext w2 w' → _ := fun w' he => b0 w' (hx2.trans he); replace b1 : ∀ w', Ext w2 w' → _ := fun w' he => b1 w' (hx2.trans he); replace r0 : ∀ w', Ext w2 w' → _ := fun w' he => r0 w' (hx2.trans he); replace r1 : ∀ w', Ext w2 w' → _ := fun w' he => r1 w' (hx2.trans he); replace r2 : ∀ w', Ext w2 w' → _ := fun w' he => r2 w' (hx2.trans he); replace r3 : ∀ w', Ext w2 w' → _ := fun w' he => r3 w' (hx2.trans he); replace r4 : ∀ w', Ext w2 w' → _ := fun w' he => r4 w' (hx2.trans he); replace r5 : ∀ w', Ext w2 w' → _ := fun w' he => r5 w' (hx2.trans he); replace rf : ∀ j w', Ext w2 w' → _ := fun j w' he => rf j w' (hx2.trans he); have k9 := (Blk.new (W := w2) #[.bool true, .int .i64 rA, .int .i64 rB, .int .i64 rC, .int .i64 rE, .slice I ri.length ic] 67); have q0 := k9.at_ 0 rfl; have q1 := k9.at_ 1 rfl; have q2 := k9.at_ 2 rfl; have q3 := k9.at_ 3 rfl; have q4 := k9.at_ 4 rfl; have q5 := k9.at_ 5 rfl; clear k9))
    have kf := ((((((((Kz.out.ext hx12).ext ((Ext.refl w2).alloc (.cells #[.bool true, .int .i64 rA, .int .i64 rB, .int .i64 rC, .int .i64 rE, .slice I ri.length ic] 67))).set (j := 0) (by simp) (.bool true)).set (j := 1) (by simp) (.int .i64 rA)).set (j := 2) (by simp) (.int .i64 rB)).set (j := 3) (by simp) (.int .i64 rC)).set (j := 4) (by simp) (.int .i64 rE)).set (j := 5) (by simp) (.slice I ri.length ic))
    have hxf := (((((((hxy.alloc (.cells #[.bool true, .int .i64 rA, .int .i64 rB, .int .i64 rC, .int .i64 rE, .slice I ri.length ic] 67)).setCell (p := ⟨w.heap.size + 1, 0, none⟩) (Nat.le_succ _) (.bool true)).setCell (p := ⟨w.heap.size + 1, 1, none⟩) (Nat.le_succ _) (.int .i64 rA)).setCell (p := ⟨w.heap.size + 1, 2, none⟩) (Nat.le_succ _) (.int .i64 rB)).setCell (p := ⟨w.heap.size + 1, 3, none⟩) (Nat.le_succ _) (.int .i64 rC)).setCell (p := ⟨w.heap.size + 1, 4, none⟩) (Nat.le_succ _) (.int .i64 rE)).setCell (p := ⟨w.heap.size + 1, 5, none⟩) (Nat.le_succ _) (.slice I ri.length ic))
    have hge : w.heap.size + 1 + 1 ≤ w1.heap.size := by
      have := hx1.le
      simp at this
      omega
    have hfar : ∀ ad, I = some ad → 0 < ri.length → ad.block ≠ w.heap.size + 1 := fun ad e _ => by
      have := Hr.out.2.2 ad e
      omega
    refine bodyPost_ret (results_apart2 rfl _ _ rfl kf) rfl ⟨⟨true, rA, rB, rC, rE, ri⟩, I, ic, rfl, ?_, hxf, Hr.out.2.1⟩
    exact (((((((Hr.out.1.ext ((Ext.refl w2).alloc _)).far (p := ⟨w.heap.size + 1, 0, none⟩) hfar (.bool true)).far (p := ⟨w.heap.size + 1, 1, none⟩) hfar (.int .i64 rA)).far (p := ⟨w.heap.size + 1, 2, none⟩) hfar (.int .i64 rB)).far (p := ⟨w.heap.size + 1, 3, none⟩) hfar (.int .i64 rC)).far (p := ⟨w.heap.size + 1, 4, none⟩) hfar (.int .i64 rE)).far (p := ⟨w.heap.size + 1, 5, none⟩) hfar (.slice I ri.length ic))
  · have Htl := Lib.hid (show ∀ r, rightP r C1 C2 → r.clear = false from fun r h => by have := htl r h; rw [hR] at this; exact (show ∀ b : Bool, true = !b → b = false by decide) _ this)
    clear htl hR
    go_enter Try.func42, Try.ntmps42
    go_wp2_with (first
      | (go_at_call 73; refine (Ht.out _ Hx0.out).mono ?_; rintro e w1 ⟨X, x, Y, y, rfl, hX, hY, hx1⟩; have hxx := Hx0.out.trans hx1; replace b0 : ∀ w', Ext w1 w' → _ := fun w' he => b0 w' (hx1.trans he); replace b1 : ∀ w', Ext w1 w' → _ := fun w' he => b1 w' (hx1.trans he); replace r0 : ∀ w', Ext w1 w' → _ := fun w' he => r0 w' (hx1.trans he); replace r1 : ∀ w', Ext w1 w' → _ := fun w' he => r1 w' (hx1.trans he); replace r2 : ∀ w', Ext w1 w' → _ := fun w' he => r2 w' (hx1.trans he); replace r3 : ∀ w', Ext w1 w' → _ := fun w' he => r3 w' (hx1.trans he); replace r4 : ∀ w', Ext w1 w' → _ := fun w' he => r4 w' (hx1.trans he); replace r5 : ∀ w', Ext w1 w' → _ := fun w' he => r5 w' (hx1.trans he); replace rf : ∀ j w', Ext w1 w' → _ := fun j w' he => rf j w' (hx1.trans he))
      | (go_at_call 74; refine (Hat.out X Y x y _ hX hY).mono ?_; rintro e w2 ⟨⟨rc, rA, rB, rC, rE, ri⟩, I, ic, rfl, hin, hx2, hright, hnew⟩; have hcl : rc = false := Htl.out _ hright; subst hcl; have Hr := Lib.hid (And.intro hin (And.intro hright hnew)); clear hin hright hnew; have hxy := hxx.trans hx2; have hx12 := hx1.trans hx2; replace b0 : ∀ w', Ext w2 w' → _ := fun w' he => b0 w' (hx2.trans he); replace b1 : ∀ w', Ext w2 w' → _ := fun w' he => b1 w' (hx2.trans he); replace r0 : ∀ w', Ext w2 w' → _ := fun w' he => r0 w' (hx2.trans he); replace r1 : ∀ w', Ext w2 w' → _ := fun w' he => r1 w' (hx2.trans he); replace r2 : ∀ w', Ext w2 w' → _ := fun w' he => r2 w' (hx2.trans he); replace r3 : ∀ w', Ext w2 w' → _ := fun w' he => r3 w' (hx2.trans he); replace r4 : ∀ w', Ext w2 w' → _ := fun w' he => r4 w' (hx2.trans he); replace r5 : ∀ w', Ext w2 w' → _ := fun w' he => r5 w' (hx2.trans he); replace rf : ∀ j w', Ext w2 w' → _ := fun j w' he => rf j w' (hx2.trans he); have k9 := (Blk.new (W := w2) #[.bool false, .int .i64 rA, .int .i64 rB, .int .i64 rC, .int .i64 rE, .slice I ri.length ic] 67); have q0 := k9.at_ 0 rfl; have q1 := k9.at_ 1 rfl; have q2 := k9.at_ 2 rfl; have q3 := k9.at_ 3 rfl; have q4 := k9.at_ 4 rfl; have q5 := k9.at_ 5 rfl; clear k9))
    have kf := ((((((((Kz.out.ext hx12).ext ((Ext.refl w2).alloc (.cells #[.bool false, .int .i64 rA, .int .i64 rB, .int .i64 rC, .int .i64 rE, .slice I ri.length ic] 67))).set (j := 0) (by simp) (.bool false)).set (j := 1) (by simp) (.int .i64 rA)).set (j := 2) (by simp) (.int .i64 rB)).set (j := 3) (by simp) (.int .i64 rC)).set (j := 4) (by simp) (.int .i64 rE)).set (j := 5) (by simp) (.slice I ri.length ic))
    have hxf := (((((((hxy.alloc (.cells #[.bool false, .int .i64 rA, .int .i64 rB, .int .i64 rC, .int .i64 rE, .slice I ri.length ic] 67)).setCell (p := ⟨w.heap.size + 1, 0, none⟩) (Nat.le_succ _) (.bool false)).setCell (p := ⟨w.heap.size + 1, 1, none⟩) (Nat.le_succ _) (.int .i64 rA)).setCell (p := ⟨w.heap.size + 1, 2, none⟩) (Nat.le_succ _) (.int .i64 rB)).setCell (p := ⟨w.heap.size + 1, 3, none⟩) (Nat.le_succ _) (.int .i64 rC)).setCell (p := ⟨w.heap.size + 1, 4, none⟩) (Nat.le_succ _) (.int .i64 rE)).setCell (p := ⟨w.heap.size + 1, 5, none⟩) (Nat.le_succ _) (.slice I ri.length ic))
    have hge : w.heap.size + 1 + 1 ≤ w1.heap.size := by
      have := hx1.le
      simp at this
      omega
    have hfar : ∀ ad, I = some ad → 0 < ri.length → ad.block ≠ w.heap.size + 1 := fun ad e _ => by
      have := Hr.out.2.2 ad e
      omega
    refine bodyPost_ret (results_apart2 rfl _ _ rfl kf) rfl ⟨⟨false, rA, rB, rC, rE, ri⟩, I, ic, rfl, ?_, hxf, Hr.out.2.1⟩
    exact (((((((Hr.out.1.ext ((Ext.refl w2).alloc _)).far (p := ⟨w.heap.size + 1, 0, none⟩) hfar (.bool false)).far (p := ⟨w.heap.size + 1, 1, none⟩) hfar (.int .i64 rA)).far (p := ⟨w.heap.size + 1, 2, none⟩) hfar (.int .i64 rB)).far (p := ⟨w.heap.size + 1, 3, none⟩) hfar (.int .i64 rC)).far (p := ⟨w.heap.size + 1, 4, none⟩) hfar (.int .i64 rE)).far (p := ⟨w.heap.size + 1, 5, none⟩) hfar (.slice I ri.length ic))
end Go.Proofs.Yteilglljigjefaa

/- Pairs, sorted: by the code. -/
namespace Go.Proofs.Yteilglljigjefaa
open Go.RowKit
theorem ints_two {w : World} {g : Nat} {x y : Int} (hb : Blk w g [vint x, vint y]) : Ints w (some ⟨g, 0, none⟩) [x, y] := fun k hk => by
  refine ⟨_, rfl, ?_⟩
  rw [add_zero']
  rcases (by simp at hk; omega : k = 0 ∨ k = 1) with rfl | rfl
  · exact hb.c 0 _ rfl
  · exact hb.c 1 _ rfl
abbrev pairL (t : Int × Int) : List Int := [t.1, t.2]
theorem eql_pair (a b c d : Int) (w : World) : (binOp .eql 91 (.agg #[.int .i64 a, .int .i64 b]) (.agg #[.int .i64 c, .int .i64 d])).run Try.prog w = .ok (.bool (a == c && b == d)) w := by
  rw [run_eql_struct, eq_pair]
  simp [Result.andThen]
set_option maxHeartbeats 800000 in
theorem cmp_pairs (s t : Int × Int) (w : World) : Calls Try.prog 90 #[pval s, pval t] w fun e w' => e = .returned (.int .i64 (cmpL (pairL s) (pairL t))) ∧ Ext w w' := by
  obtain ⟨a, b⟩ := s
  obtain ⟨x, y⟩ := t
  have hk1 : Blk ((w.alloc (.cells #[vint a, vint b] 91)).alloc (.cells #[vint x, vint y] 91)) w.heap.size [vint a, vint b] := (Blk.new _ _).ext ((Ext.refl _).alloc _)
  have hk2 : Blk ((w.alloc (.cells #[vint a, vint b] 91)).alloc (.cells #[vint x, vint y] 91)) (w.heap.size + 1) [vint x, vint y] := Blk.new' (cs := #[vint x, vint y]) (by simp)
  have cc := fun (w' : World) (h : Ext ((w.alloc (.cells #[vint a, vint b] 91)).alloc (.cells #[vint x, vint y] 91)) w') => compare_any (some ⟨w.heap.size, 0, none⟩) (some ⟨w.heap.size + 1, 0, none⟩) 2 2 [a, b] [x, y] w' (ints_two (hk1.ext h)) (ints_two (hk2.ext h)) rfl (by simp)
  have hsame : a = x → b = y → (0 : Int) = cmpL [a, b] [x, y] := fun h1 h2 => by subst h1 h2; simp [cmpL, cmpI]
  have Cc := Lib.hid cc
  have Hs := Lib.hid hsame
  clear cc hk1 hk2 hsame
  have s1 : ∀ (g : Nat) (w : World), (Instr.sliceAt 91 (.pointer (some ⟨g, 0, none⟩)) none none none).run Try.prog w = .ok (.slice (some ⟨g, 0, none⟩) 2 2) w := fun _ _ => by kernel_rfl
  have he := eql_pair a b x y
  have hx0 : Ext w ((w.alloc (.cells #[vint a, vint b] 91)).alloc (.cells #[vint x, vint y] 91)) := ((Ext.refl _).alloc _).alloc _
  by_cases h : a = x ∧ b = y
  · have hz := Hs.out h.1 h.2
    have Hz := Lib.hid hz
    have d1 : (a == x && b == y) = true := by simp [h.1, h.2]
    rw [d1] at he
    clear h hz d1 Cc Hs
    go_enter Try.func90, Try.ntmps90
    go_wp2
    go_ret
    exact ⟨ret_i Hz.out, hx0⟩
  · have d1 : (a == x && b == y) = false := by
      cases e : (a == x && b == y)
      · rfl
      · simp at e; exact absurd e h
    rw [d1] at he
    clear h d1 Hs
    go_enter Try.func90, Try.ntmps90
    go_wp2
    refine wp_region_calm 4 (fun _ _ v _ => v = .int .i64 (cmpL [a, b] [x, y])) (fun _ _ _ _ _ _ h => h) (by kernel_rfl) (by kernel_rfl) ?_
    simp only [List.take_succ_cons, List.take_zero, List.drop_succ_cons, List.drop_zero]
    refine calm_quiet calm_mono_final 2 (by kernel_rfl) ?_
    simp only [List.take_succ_cons, List.take_zero, List.drop_succ_cons, List.drop_zero]
    repeat (go_big_quiet_step (fail))
    refine wpQuiet_nil ?_
    refine calm_call calm_mono_final 80 #[.slice (some ⟨w.heap.size, 0, none⟩) 2 2, .slice (some ⟨w.heap.size + 1, 0, none⟩) 2 2] rfl (fun w => ?_) (fun w he hF => ?_) ?_
    · go_simp
    · exact (Cc.out w he).mono fun e w'' ⟨he', hx⟩ => ⟨_, he', by rw [hx]; exact Ext.refl _, rfl⟩
    rintro _ _ _ rfl
    simp only [Act.put, List.setIfInBounds_toArray, List.set_cons_succ, List.set_cons_zero]
    refine calm_quiet calm_mono_final 1 (by kernel_rfl) ?_
    simp only [List.take_succ_cons, List.take_zero, List.drop_succ_cons, List.drop_zero]
    repeat (go_big_quiet_step (fail))
    refine wpQuiet_nil ?_
    refine calm_nil fun w3 he3 _ => ?_
    go_wp2
    go_ret
    exact ⟨rfl, hx0.trans he3⟩
/-! ### The sort, plain -/
def pLess (p q : Int × Int) : Bool := decide (cmpL (pairL p) (pairL q) < 0)
/-- Two entries exchanged: j + 1 and j. -/
def swp (l : List (Int × Int)) (j : Nat) : List (Int × Int) := (l.set (j + 1) (pAt l j)).set j (pAt l (j + 1))
def bub (l : List (Int × Int)) : Nat → List (Int × Int)
  | 0 => l
  | j + 1 => bif pLess (pAt l (j + 1)) (pAt l j) then bub (swp l j) j else l
def insr (l : List (Int × Int)) : Nat → List (Int × Int)
  | 0 => l
  | k + 1 => bub (insr l k) (k + 1)
theorem swp_len (l : List (Int × Int)) (j : Nat) : (swp l j).length = l.length := by simp [swp]
theorem bub_len : ∀ (j : Nat) (l : List (Int × Int)), (bub l j).length = l.length
  | 0, l => rfl
  | j + 1, l => by
    unfold bub
    cases pLess (pAt l (j + 1)) (pAt l j)
    · rfl
    · show (bub (swp l j) j).length = _
      rw [bub_len j, swp_len]
theorem insr_len (l : List (Int × Int)) : ∀ k, (insr l k).length = l.length
  | 0 => rfl
  | k + 1 => by rw [insr, bub_len, insr_len l k]
theorem pcells_set : ∀ (l : List (Int × Int)) (k : Nat) (p : Int × Int), k < l.length → (((l.map pcells).flatten.set (k * 2) (vint p.1)).set (k * 2 + 1) (vint p.2)) = ((l.set k p).map pcells).flatten
  | [], k, p, h => by simp at h
  | q :: t, 0, p, _ => by simp [pcells]
  | q :: t, k + 1, p, h => by
    have ih := pcells_set t k p (by simpa using h)
    have e1 : (k + 1) * 2 = k * 2 + 1 + 1 := by omega
    simp only [List.map_cons, List.flatten_cons, pcells, List.cons_append, List.nil_append, List.set_cons_succ, e1] at ih ⊢
    rw [ih]
theorem pcells_swp (l : List (Int × Int)) (j : Nat) (h : j + 1 < l.length) : (((((l.map pcells).flatten.set ((j + 1) * 2) (vint (pAt l j).1)).set ((j + 1) * 2 + 1) (vint (pAt l j).2)).set (j * 2) (vint (pAt l (j + 1)).1)).set (j * 2 + 1) (vint (pAt l (j + 1)).2)) = ((swp l j).map pcells).flatten := by
  rw [pcells_set l (j + 1) _ h, pcells_set _ j _ (by simp; omega)]
  rfl
theorem pcells_get (l : List (Int × Int)) {k : Nat} (h : k < l.length) : ((l.map pcells).flatten)[k * 2]? = some (vint (pAt l k).1) ∧ ((l.map pcells).flatten)[k * 2 + 1]? = some (vint (pAt l k).2) := by
  have h0 := flatten_get 2 (l.map pcells) (fun r hr => by obtain ⟨x, _, rfl⟩ := List.mem_map.1 hr; rfl) k 0 (by omega) (by simpa using h)
  have h1 := flatten_get 2 (l.map pcells) (fun r hr => by obtain ⟨x, _, rfl⟩ := List.mem_map.1 hr; rfl) k 1 (by omega) (by simpa using h)
  rw [Nat.add_zero] at h0
  rw [h0, h1, pAt_eq h]
  simp [pcells]
abbrev OwnQ (w1 w : World) (v : Value) (xs : List (Int × Int)) : Prop := Own w1 w 91 2 v xs.length (xs.map pcells).flatten
set_option maxRecDepth 100000 in
set_option maxHeartbeats 8000000 in
theorem insort_pairs (w1 : World) (v : Value) (l : List (Int × Int)) (w : World) (hA : OwnQ w1 w v l) (hl : l.length ≤ 12) :
    Calls Try.prog 123 #[v, .int .i64 0, .int .i64 l.length, .func (.func 90) #[] #[]] w fun e w' => e = .returned (.tuple #[]) ∧ OwnQ w1 w' v (insr l (l.length - 1)) := by
  have hc := fun (s t : Int × Int) (w' : World) => cmp_pairs s t w'
  have Hc := Lib.hid hc
  clear hc
  obtain ⟨n, hn⟩ : ∃ n, n = l.length := ⟨_, rfl⟩
  have hfin : ∀ w' k, 1 ≤ k → (k = n ∨ (k = 1 ∧ n = 0)) → Own w1 w' 91 2 v n ((insr l (k - 1)).map pcells).flatten → OwnQ w1 w' v (insr l (n - 1)) := fun w' k h1 h2 h3 => by
    have e : k - 1 = n - 1 := by omega
    rw [e] at h3
    show Own w1 w' _ 2 v (insr l (n - 1)).length _
    rw [insr_len, ← hn]
    exact h3
  have hil := fun k => insr_len l k
  have hA : Own w1 w 91 2 v n ((insr l 0).map pcells).flatten := by rw [hn]; exact hA
  rw [← hn] at hl ⊢
  simp only [← hn] at hil
  have Hfin := Lib.hid hfin
  have Hil := Lib.hid hil
  clear hfin hil hn
  obtain ⟨A, c, rfl⟩ := hA.form
  go_enter Try.func123, Try.ntmps123
  go_wp2
  go_loopw [8] (fun i wr => ∃ k : Nat, 1 ≤ k ∧ (k ≤ n ∨ k = 1) ∧ i = .int .i64 k ∧ Own w1 wr 91 2 (.slice A n c) n ((insr l (k - 1)).map pcells).flatten) (fun i _ => n + 1 - (intOf i).toNat)
  case atStart => exact ⟨1, by omega, .inr rfl, rfl, hA⟩
  case round =>
    clear hA
    obtain ⟨k, hk1, hk2, rfl, hown⟩ := hrel
    by_cases hlt : k < n
    · obtain ⟨g, cg, ee, _, _⟩ := hown.at_ (by omega)
      cases ee
      have b2 : (k : Int) < (n : Int) := by omega
      go_wp2
      obtain ⟨wo, rfl⟩ : ∃ wo : World, wo = wr := ⟨_, rfl⟩
      go_loopw [9] (fun j wr => ∃ (i : Nat) (L : List (Int × Int)), i ≤ k ∧ j = .int .i64 i ∧ L.length = n ∧ Own w1 wr 91 2 (.slice (some ⟨g, 0, none⟩) n c) n (L.map pcells).flatten ∧ Hid (bub L i = insr l k)) (fun j _ => (intOf j).toNat)
      case atStart => exact ⟨k, insr l (k - 1), Nat.le_refl _, rfl, Hil.out _, hown, Lib.hid (by obtain ⟨m, rfl⟩ : ∃ m, k = m + 1 := ⟨k - 1, by omega⟩; rfl)⟩
      case round =>
        clear hown
        obtain ⟨i, L, hi, rfl, hLl, hown, Hb⟩ := hrel
        cases i with
        | zero =>
          have hb : L = insr l k := Hb.out
          have hown2 : Own w1 wr 91 2 (.slice (some ⟨g, 0, none⟩) n c) n ((insr l (k + 1 - 1)).map pcells).flatten := by
            rw [← show L = insr l (k + 1 - 1) from hb]; exact hown
          have Hown := Lib.hid hown2
          clear hown hown2 hb Hb Hc
          go_wp2
          refine wp_region_calm 17 (fun _ _ _ _ => True) (fun _ _ _ _ _ _ h => h) (by kernel_rfl) (by kernel_rfl) ?_
          simp only [List.take_succ_cons, List.take_zero, List.drop_succ_cons, List.drop_zero]
          refine calm_quiet calm_mono_final 14 (by kernel_rfl) ?_
          simp only [List.take_succ_cons, List.take_zero, List.drop_succ_cons, List.drop_zero]
          repeat (go_big_quiet_step (fail))
          refine wpQuiet_nil ?_
          refine calm_skip (by kernel_rfl) ?_
          simp only [Act.put, List.setIfInBounds_toArray, List.set_cons_succ, List.set_cons_zero]
          refine calm_quiet calm_mono_final 2 (by kernel_rfl) ?_
          simp only [List.take_succ_cons, List.take_zero, List.drop_succ_cons, List.drop_zero]
          repeat (go_big_quiet_step (fail))
          refine wpQuiet_nil ?_
          refine calm_nil fun w3 he3 _ => ?_
          go_wp2
          go_roundw
          case rel => exact ⟨k + 1, by omega, by omega, by go_num, Hown.out.later he3⟩
          case measure => simp [intOf]; omega
        | succ j =>
          have hj1 : j + 1 < L.length := by omega
          obtain ⟨g0, g1⟩ := pcells_get L hj1
          obtain ⟨f0, f1⟩ := pcells_get L (show j < L.length by omega)
          have hcl := pcells_len L
          have x0 : wr.cell? ⟨g, (j + 1) * 2, none⟩ = some (vint (pAt L (j + 1)).1) := (hown.cell (j := (j + 1) * 2) (by omega)).trans g0
          have x1 : wr.cell? ⟨g, (j + 1) * 2 + 1, none⟩ = some (vint (pAt L (j + 1)).2) := (hown.cell (j := (j + 1) * 2 + 1) (by omega)).trans g1
          have y0 : wr.cell? ⟨g, j * 2, none⟩ = some (vint (pAt L j).1) := (hown.cell (j := j * 2) (by omega)).trans f0
          have y1 : wr.cell? ⟨g, j * 2 + 1, none⟩ = some (vint (pAt L j).2) := (hown.cell (j := j * 2 + 1) (by omega)).trans f1
          have hf := hown.free
          have hcc := fun w' => Hc.out (pAt L (j + 1)) (pAt L j) w'
          have hsw := pcells_swp L j hj1
          have hbu : bub L (j + 1) = bif pLess (pAt L (j + 1)) (pAt L j) then bub (swp L j) j else L := rfl
          have hpl : pLess (pAt L (j + 1)) (pAt L j) = decide (cmpL (pairL (pAt L (j + 1))) (pairL (pAt L j)) < 0) := rfl
          rw [hpl] at hbu
          have Hcc := Lib.hid hcc
          have Hsw := Lib.hid hsw
          have Hbu := Lib.hid hbu
          have Hown := Lib.hid hown
          have Hsl := Lib.hid (swp_len L j)
          have X := Lib.hid (And.intro x0 (And.intro x1 (And.intro y0 y1)))
          have p0 := Ext.cells x0
          have p1 := Ext.cells x1
          have p2 := Ext.cells y0
          have p3 := Ext.cells y1
          clear g0 g1 f0 f1 hcc hsw hbu hpl hown hcl x0 x1 y0 y1 Hc
          generalize cmpL (pairL (pAt L (j + 1))) (pairL (pAt L j)) = cm at *
          generalize pAt L (j + 1) = s at *
          generalize pAt L j = t at *
          have e1 : IntKind.i64.wrap (((j + 1 : Nat) : Int) - 1) = (j : Int) := by rw [IntKind.wrap_i64]; omega
          have b3 : (0 : Int) < ((j + 1 : Nat) : Int) := by omega
          have b4 : ((j + 1 : Nat) : Int) < (n : Int) := by omega
          have b5 : (j : Int) < (n : Int) := by omega
          by_cases hcm : cm < 0
          · have hq : bub (swp L j) j = insr l k := by
              have h1 := Hbu.out
              rw [decide_eq_true hcm] at h1
              rw [← Hb.out, h1]
              rfl
            have Hq := Lib.hid hq
            have d1 : decide (cm < 0) = true := by simpa using hcm
            clear hq Hbu Hb
            go_wp2
            refine wp_region_calm 17 (fun _ _ v _ => v = .int .i64 cm) (fun _ _ _ _ _ _ h => h) (by kernel_rfl) (by kernel_rfl) ?_
            simp only [List.take_succ_cons, List.take_zero, List.drop_succ_cons, List.drop_zero]
            refine calm_quiet calm_mono_final 14 (by kernel_rfl) ?_
            simp only [List.take_succ_cons, List.take_zero, List.drop_succ_cons, List.drop_zero]
            repeat (go_big_quiet_step (fail))
            refine wpQuiet_nil ?_
            refine calm_call calm_mono_final 90 #[pval s, pval t] rfl (fun w => ?_) (fun w he hF => ?_) ?_
            · go_simp
            · exact (Hcc.out w).mono fun e w'' ⟨he', hx⟩ => ⟨_, he', hx, rfl⟩
            rintro _ _ _ rfl
            simp only [Act.put, List.setIfInBounds_toArray, List.set_cons_succ, List.set_cons_zero]
            refine calm_quiet calm_mono_final 2 (by kernel_rfl) ?_
            simp only [List.take_succ_cons, List.take_zero, List.drop_succ_cons, List.drop_zero]
            repeat (go_big_quiet_step (fail))
            refine wpQuiet_nil ?_
            refine calm_nil fun w3 he3 _ => ?_
            obtain ⟨x0, x1, y0, y1⟩ := X.out
            have x0 := he3.cell x0
            have x1 := he3.cell x1
            have y0 := he3.cell y0
            have y1 := he3.cell y1
            have hown3 := Hown.out.later he3
            have hf := hown3.free
            have Hown3 := Lib.hid hown3
            clear p0 p1 p2 p3 hown3
            go_wp2
            go_region
            have hown4 := ((((Hown3.out.store ((j + 1) * 2) (vint t.1)).store ((j + 1) * 2 + 1) (vint t.2)).store (j * 2) (vint s.1)).store (j * 2 + 1) (vint s.2)).later (Ext.refl _).drew
            rw [Hsw.out] at hown4
            generalize ((((w3.setCell ⟨g, (j + 1) * 2, none⟩ (vint t.1)).setCell ⟨g, (j + 1) * 2 + 1, none⟩ (vint t.2)).setCell ⟨g, j * 2, none⟩ (vint s.1)).setCell ⟨g, j * 2 + 1, none⟩ (vint s.2)).drew = w5 at hown4 ⊢
            have Hown4 := Lib.hid hown4
            clear hown4 hf x0 x1 y0 y1 Hown3 Hown X
            go_wp2
            go_roundw
            case rel => exact ⟨j, swp L j, by omega, by go_num, by rw [Hsl.out]; exact hLl, Hown4.out, Hq⟩
            case measure => simp [intOf] <;> omega
          · have hq : L = insr l k := by
              have h1 := Hbu.out
              rw [decide_eq_false hcm] at h1
              rw [← Hb.out, h1]
              rfl
            have hown2 : Own w1 wr 91 2 (.slice (some ⟨g, 0, none⟩) n c) n ((insr l (k + 1 - 1)).map pcells).flatten := by
              rw [← show L = insr l (k + 1 - 1) from hq]; exact Hown.out
            have Hown2 := Lib.hid hown2
            have d1 : decide (cm < 0) = false := by simpa using hcm
            clear hq Hbu Hb hown2
            go_wp2
            refine wp_region_calm 17 (fun _ _ v _ => v = .int .i64 cm) (fun _ _ _ _ _ _ h => h) (by kernel_rfl) (by kernel_rfl) ?_
            simp only [List.take_succ_cons, List.take_zero, List.drop_succ_cons, List.drop_zero]
            refine calm_quiet calm_mono_final 14 (by kernel_rfl) ?_
            simp only [List.take_succ_cons, List.take_zero, List.drop_succ_cons, List.drop_zero]
            repeat (go_big_quiet_step (fail))
            refine wpQuiet_nil ?_
            refine calm_call calm_mono_final 90 #[pval s, pval t] rfl (fun w => ?_) (fun w he hF => ?_) ?_
            · go_simp
            · exact (Hcc.out w).mono fun e w'' ⟨he', hx⟩ => ⟨_, he', hx, rfl⟩
            rintro _ _ _ rfl
            simp only [Act.put, List.setIfInBounds_toArray, List.set_cons_succ, List.set_cons_zero]
            refine calm_quiet calm_mono_final 2 (by kernel_rfl) ?_
            simp only [List.take_succ_cons, List.take_zero, List.drop_succ_cons, List.drop_zero]
            repeat (go_big_quiet_step (fail))
            refine wpQuiet_nil ?_
            refine calm_nil fun w3 he3 _ => ?_
            go_wp2
            go_roundw
            case rel => exact ⟨k + 1, by omega, by omega, by go_num, Hown2.out.later he3⟩
            case measure => simp [intOf]; omega
    · have Hown := Lib.hid hown
      clear hown Hc
      go_wp2
      go_end0
      exact ⟨rfl, Hfin.out _ k hk1 (by omega) Hown.out⟩
set_option maxRecDepth 100000 in
set_option maxHeartbeats 2000000 in
theorem pdq_pairs (w1 : World) (v : Value) (l : List (Int × Int)) (L : Int) (w : World) (hA : OwnQ w1 w v l) (hl : l.length ≤ 12) :
    Calls Try.prog 109 #[v, .int .i64 0, .int .i64 l.length, .int .i64 L, .func (.func 90) #[] #[]] w fun e w' => e = .returned (.tuple #[]) ∧ OwnQ w1 w' v (insr l (l.length - 1)) := by
  have hc := insort_pairs w1 v l w hA hl
  have Hc := Lib.hid hc
  clear hc
  obtain ⟨A, c, rfl⟩ := hA.form
  clear hA
  generalize insr l (l.length - 1) = R at *
  generalize l.length = n at *
  go_enter Try.func109, Try.ntmps109
  go_wp2
  go_loopw [1, 2] (fun a b wr => a = .int .i64 0 ∧ b = .int .i64 n ∧ wr = w) (fun _ _ _ => 0)
  case atStart => exact ⟨rfl, rfl, rfl⟩
  case round =>
    obtain ⟨rfl, rfl, rfl⟩ := hrel
    go_wp2_with (go_at_call 123; refine Hc.out.mono ?_; rintro e w' ⟨rfl, hx⟩)
    (try simp only [Exit.inBlock, Exit.then])
    refine bodyPost_ret (results_none rfl _ _ _) rfl ?_
    exact ⟨rfl, hx⟩
set_option maxRecDepth 100000 in
set_option maxHeartbeats 2000000 in
theorem sort_pairs (w1 : World) (v : Value) (l : List (Int × Int)) (w : World) (hA : OwnQ w1 w v l) (hl : l.length ≤ 12) :
    Calls Try.prog 89 #[v, .func (.func 90) #[] #[]] w fun e w' => e = .returned (.tuple #[]) ∧ OwnQ w1 w' v (insr l (l.length - 1)) := by
  have hc := fun L => pdq_pairs w1 v l L w hA hl
  have hn := fun w' => len_small l.length w' hl
  have Hc := Lib.hid hc
  have Hn := Lib.hid hn
  clear hc hn
  obtain ⟨A, c, rfl⟩ := hA.form
  clear hA
  generalize insr l (l.length - 1) = R at *
  generalize l.length = n at *
  go_enter Try.func89, Try.ntmps89
  go_wp2_with (first | (go_at_call 104; refine (Hn.out _).mono ?_; rintro e w' ⟨L, rfl, rfl⟩) | (go_at_call 109; refine (Hc.out _).mono ?_; rintro e w' ⟨rfl, hx⟩))
  go_end0
  exact ⟨rfl, hx⟩
/-! ### The pairs of panels -/
theorem flatMap_congr {α β : Type} : ∀ {l : List α} {f g : α → List β}, (∀ x ∈ l, f x = g x) → l.flatMap f = l.flatMap g
  | [], _, _, _ => rfl
  | x :: l, f, g, h => by
    rw [List.flatMap_cons, List.flatMap_cons, h x (by simp), flatMap_congr fun y hy => h y (by simp [hy])]
def rowC (f : Nat → Nat → Bool) (i m : Nat) : List (Int × Int) := ((List.range m).filter (fun k => f k i)).map fun (k : Nat) => ((k : Int), (i : Int))
def codeC (f : Nat → Nat → Bool) (m : Nat) : List (Int × Int) := (List.range m).flatMap fun i => rowC f i i
def rowR (f : Nat → Nat → Bool) (i k m : Nat) : List (Int × Int) := ((List.range' k m).filter (fun k => f i k)).map fun (k : Nat) => ((i : Int), (k : Int))
def refC (f : Nat → Nat → Bool) (n m : Nat) : List (Int × Int) := (List.range m).flatMap fun i => rowR f i (i + 1) (n - (i + 1))
theorem rowC_succ (f : Nat → Nat → Bool) (i m : Nat) : rowC f i (m + 1) = rowC f i m ++ (bif f m i then [((m : Int), (i : Int))] else []) := by
  unfold rowC
  rw [List.range_succ, List.filter_append, List.map_append]
  cases h : f m i <;> simp [h]
theorem codeC_succ (f : Nat → Nat → Bool) (m : Nat) : codeC f (m + 1) = codeC f m ++ rowC f m m := by simp [codeC, List.range_succ]
theorem rowR_succ (f : Nat → Nat → Bool) (i k m : Nat) : rowR f i k (m + 1) = rowR f i k m ++ (bif f i (k + m) then [((i : Int), ((k + m : Nat) : Int))] else []) := by
  unfold rowR
  rw [List.range'_1_concat, List.filter_append, List.map_append]
  cases h : f i (k + m) <;> simp [h]
theorem refC_succ (f : Nat → Nat → Bool) (n m : Nat) : refC f n (m + 1) = refC f n m ++ rowR f m (m + 1) (n - (m + 1)) := by simp [refC, List.range_succ]
theorem rowC_len (f : Nat → Nat → Bool) (i m : Nat) : (rowC f i m).length ≤ m := by
  unfold rowC
  rw [List.length_map]
  exact Nat.le_trans (List.length_filter_le _ _) (by simp)
theorem rowR_len (f : Nat → Nat → Bool) (i k m : Nat) : (rowR f i k m).length ≤ m := by
  unfold rowR
  rw [List.length_map]
  exact Nat.le_trans (List.length_filter_le _ _) (by simp)
theorem codeC_len (f : Nat → Nat → Bool) : ∀ m, (codeC f m).length * 2 ≤ m * m
  | 0 => by simp [codeC]
  | m + 1 => by
    have h1 := codeC_len f m
    have h2 := rowC_len f m m
    rw [codeC_succ, List.length_append, Nat.add_mul m, Nat.mul_add]
    omega
theorem refC_len (f : Nat → Nat → Bool) (n : Nat) : ∀ m, (refC f n m).length ≤ n * m
  | 0 => by simp [refC]
  | m + 1 => by
    have h1 := refC_len f n m
    have h2 := rowR_len f m (m + 1) (n - (m + 1))
    rw [refC_succ, List.length_append, Nat.mul_add]
    omega
/-- The pairs of at most four panels, sorted, are the reference's. -/
theorem sorted_pairs (f : Nat → Nat → Bool) (n : Nat) (hn : n ≤ 4) : insr (codeC f n) ((codeC f n).length - 1) = refC f n n := by
  have h : ∀ b01 b02 b12 b03 b13 b23 : Bool, ∀ n, n ≤ 4 → insr (codeC (fun i k => if i = 0 then (if k = 1 then b01 else if k = 2 then b02 else b03) else if i = 1 then (if k = 2 then b12 else b13) else b23) n) ((codeC (fun i k => if i = 0 then (if k = 1 then b01 else if k = 2 then b02 else b03) else if i = 1 then (if k = 2 then b12 else b13) else b23) n).length - 1) = refC (fun i k => if i = 0 then (if k = 1 then b01 else if k = 2 then b02 else b03) else if i = 1 then (if k = 2 then b12 else b13) else b23) n n := by decide +kernel
  have h2 := h (f 0 1) (f 0 2) (f 1 2) (f 0 3) (f 1 3) (f 2 3) n hn
  have e : ∀ i k, i < k → k < 4 → (if i = 0 then (if k = 1 then f 0 1 else if k = 2 then f 0 2 else f 0 3) else if i = 1 then (if k = 2 then f 1 2 else f 1 3) else f 2 3) = f i k := fun i k h1 h2 => by
    rcases (by omega : (i = 0 ∧ k = 1) ∨ (i = 0 ∧ k = 2) ∨ (i = 0 ∧ k = 3) ∨ (i = 1 ∧ k = 2) ∨ (i = 1 ∧ k = 3) ∨ (i = 2 ∧ k = 3)) with ⟨rfl, rfl⟩ | ⟨rfl, rfl⟩ | ⟨rfl, rfl⟩ | ⟨rfl, rfl⟩ | ⟨rfl, rfl⟩ | ⟨rfl, rfl⟩ <;> rfl
  have e1 : codeC f n = codeC (fun i k => if i = 0 then (if k = 1 then f 0 1 else if k = 2 then f 0 2 else f 0 3) else if i = 1 then (if k = 2 then f 1 2 else f 1 3) else f 2 3) n := by
    unfold codeC rowC
    refine flatMap_congr fun i hi => ?_
    congr 1
    refine List.filter_congr fun k hk => ?_
    rw [List.mem_range] at hi hk
    exact (e k i hk (by omega)).symm
  have e2 : refC f n n = refC (fun i k => if i = 0 then (if k = 1 then f 0 1 else if k = 2 then f 0 2 else f 0 3) else if i = 1 then (if k = 2 then f 1 2 else f 1 3) else f 2 3) n n := by
    unfold refC rowR
    refine flatMap_congr fun i hi => ?_
    congr 1
    refine List.filter_congr fun k hk => ?_
    rw [List.mem_range] at hi
    rw [List.mem_range'_1] at hk
    exact (e i k (by omega) (by omega)).symm
  rw [e1, e2]
  exact h2
end Go.Proofs.Yteilglljigjefaa
