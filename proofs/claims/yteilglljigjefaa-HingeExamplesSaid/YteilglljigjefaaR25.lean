/- The line of an edge, as a proof: by the code. -/
import Derived.Test.YteilglljigjefaaR24
import Derived.BigRegion
namespace Go.Proofs.Yteilglljigjefaa
open Go.RowKit
set_option maxRecDepth 100000 in
set_option maxHeartbeats 8000000 in
theorem through_any (A : Option Addr) (ca : Nat) (c : List Cn) (i : Nat) (sg : Int) (w : World) (hA : CRow w A c) (hc : CnsOk c) (hi : i < c.length) (hs : sg = 1 ∨ sg = -1) :
    Calls Try.prog 94 #[.slice A c.length ca, .int .i64 i, .int .i64 sg] w fun e w' => e = .returned ((thrA c i sg).val none 0) ∧ Ext w w' := by
  have hi1 : (i + 1) % c.length < c.length := Nat.mod_lt _ (by omega)
  obtain ⟨ad, rfl, p0, p1, p2⟩ := hA.at_ hi
  obtain ⟨_, ee, q0, q1, q2⟩ := hA.at_ hi1
  cases ee
  have hf := thr_ok hc hi hs
  have hed := hc.edge hi
  have hth : thrA c i sg = ⟨true, sg * ((cAt c ((i + 1) % c.length)).at_.y - (cAt c i).at_.y), sg * ((cAt c i).at_.x - (cAt c ((i + 1) % c.length)).at_.x), sg * ((cAt c ((i + 1) % c.length)).at_.y - (cAt c i).at_.y) * (cAt c i).at_.x + sg * ((cAt c i).at_.x - (cAt c ((i + 1) % c.length)).at_.x) * (cAt c i).at_.y, (cAt c i).d, []⟩ := rfl
  have hn8 := hc.len
  rw [hth] at hf ⊢
  clear hth hA hc
  generalize c.length = n at *
  have e2 : ((i : Int) + 1).tmod (n : Int) = (((i + 1) % n : Nat) : Int) := by
    rw [Int.tmod_eq_emod_of_nonneg (by omega)]; exact (by push_cast; rfl)
  have e3 : ((n : Int) = 0) = False := by simp; omega
  generalize (i + 1) % n = i1 at *
  obtain ⟨ha, hb, hx, hy, hd⟩ := hed
  generalize cAt c i = a at *
  generalize cAt c i1 = b at *
  obtain ⟨⟨ax, ay⟩, az⟩ := a
  obtain ⟨⟨bx, bY⟩, bz⟩ := b
  simp only at p0 p1 p2 q0 q1 q2 hf hx hy hd ⊢
  have b1 : (i1 : Int) < (n : Int) := by omega
  have b2 : (i : Int) < (n : Int) := by omega
  have hx0 : Ext w (w.alloc (.cells #[.bool false, vint 0, vint 0, vint 0, vint 0, .slice none 0 0] 67)) := (Ext.refl _).alloc _
  replace p0 : ∀ w', Ext (w.alloc (.cells #[.bool false, vint 0, vint 0, vint 0, vint 0, .slice none 0 0] 67)) w' → _ := fun w' he => p0 w' (hx0.trans he)
  replace p1 : ∀ w', Ext (w.alloc (.cells #[.bool false, vint 0, vint 0, vint 0, vint 0, .slice none 0 0] 67)) w' → _ := fun w' he => p1 w' (hx0.trans he)
  replace p2 : ∀ w', Ext (w.alloc (.cells #[.bool false, vint 0, vint 0, vint 0, vint 0, .slice none 0 0] 67)) w' → _ := fun w' he => p2 w' (hx0.trans he)
  replace q0 : ∀ w', Ext (w.alloc (.cells #[.bool false, vint 0, vint 0, vint 0, vint 0, .slice none 0 0] 67)) w' → _ := fun w' he => q0 w' (hx0.trans he)
  replace q1 : ∀ w', Ext (w.alloc (.cells #[.bool false, vint 0, vint 0, vint 0, vint 0, .slice none 0 0] 67)) w' → _ := fun w' he => q1 w' (hx0.trans he)
  replace q2 : ∀ w', Ext (w.alloc (.cells #[.bool false, vint 0, vint 0, vint 0, vint 0, .slice none 0 0] 67)) w' → _ := fun w' he => q2 w' (hx0.trans he)
  go_enter Try.func94, Try.ntmps94
  go_wp2
  have k6 : Blk (w.alloc (.cells #[.bool false, vint 0, vint 0, vint 0, vint 0, .slice none 0 0] 67)) w.heap.size [.bool false, vint 0, vint 0, vint 0, vint 0, .slice none 0 0] := Blk.new _ _
  generalize (w.alloc (.cells #[.bool false, vint 0, vint 0, vint 0, vint 0, .slice none 0 0] 67)) = W0 at *
  have e4 : ¬ n = 0 := by omega
  have Hx0 := Lib.hid hx0
  have K6 := Lib.hid k6
  clear hx0 k6
  have x1 : Ext W0 (W0.alloc (.cells #[vint 0, vint 0, vint 0] 114)) := (Ext.refl _).alloc _
  have p0_1 : ∀ w', Ext (W0.alloc (.cells #[vint 0, vint 0, vint 0] 114)) w' → _ := fun w' he => p0 w' (x1.trans he)
  have p1_1 : ∀ w', Ext (W0.alloc (.cells #[vint 0, vint 0, vint 0] 114)) w' → _ := fun w' he => p1 w' (x1.trans he)
  have p2_1 : ∀ w', Ext (W0.alloc (.cells #[vint 0, vint 0, vint 0] 114)) w' → _ := fun w' he => p2 w' (x1.trans he)
  have q0_1 : ∀ w', Ext (W0.alloc (.cells #[vint 0, vint 0, vint 0] 114)) w' → _ := fun w' he => q0 w' (x1.trans he)
  have q1_1 : ∀ w', Ext (W0.alloc (.cells #[vint 0, vint 0, vint 0] 114)) w' → _ := fun w' he => q1 w' (x1.trans he)
  have q2_1 : ∀ w', Ext (W0.alloc (.cells #[vint 0, vint 0, vint 0] 114)) w' → _ := fun w' he => q2 w' (x1.trans he)
  have x2 : Ext W0 (W0.alloc (.cells #[vint ax, vint ay, vint az] 114)) := (Ext.refl _).alloc _
  have p0_2 : ∀ w', Ext (W0.alloc (.cells #[vint ax, vint ay, vint az] 114)) w' → _ := fun w' he => p0 w' (x2.trans he)
  have p1_2 : ∀ w', Ext (W0.alloc (.cells #[vint ax, vint ay, vint az] 114)) w' → _ := fun w' he => p1 w' (x2.trans he)
  have p2_2 : ∀ w', Ext (W0.alloc (.cells #[vint ax, vint ay, vint az] 114)) w' → _ := fun w' he => p2 w' (x2.trans he)
  have q0_2 : ∀ w', Ext (W0.alloc (.cells #[vint ax, vint ay, vint az] 114)) w' → _ := fun w' he => q0 w' (x2.trans he)
  have q1_2 : ∀ w', Ext (W0.alloc (.cells #[vint ax, vint ay, vint az] 114)) w' → _ := fun w' he => q1 w' (x2.trans he)
  have q2_2 : ∀ w', Ext (W0.alloc (.cells #[vint ax, vint ay, vint az] 114)) w' → _ := fun w' he => q2 w' (x2.trans he)
  have x3 : Ext W0 (W0.alloc (.cells #[vint bx, vint bY, vint bz] 114)) := (Ext.refl _).alloc _
  have p0_3 : ∀ w', Ext (W0.alloc (.cells #[vint bx, vint bY, vint bz] 114)) w' → _ := fun w' he => p0 w' (x3.trans he)
  have p1_3 : ∀ w', Ext (W0.alloc (.cells #[vint bx, vint bY, vint bz] 114)) w' → _ := fun w' he => p1 w' (x3.trans he)
  have p2_3 : ∀ w', Ext (W0.alloc (.cells #[vint bx, vint bY, vint bz] 114)) w' → _ := fun w' he => p2 w' (x3.trans he)
  have q0_3 : ∀ w', Ext (W0.alloc (.cells #[vint bx, vint bY, vint bz] 114)) w' → _ := fun w' he => q0 w' (x3.trans he)
  have q1_3 : ∀ w', Ext (W0.alloc (.cells #[vint bx, vint bY, vint bz] 114)) w' → _ := fun w' he => q1 w' (x3.trans he)
  have q2_3 : ∀ w', Ext (W0.alloc (.cells #[vint bx, vint bY, vint bz] 114)) w' → _ := fun w' he => q2 w' (x3.trans he)
  have x4 : Ext W0 ((W0.alloc (.cells #[vint 0, vint 0, vint 0] 114)).alloc (.cells #[vint 0, vint 0, vint 0] 114)) := ((Ext.refl _).alloc _).alloc _
  have p0_4 : ∀ w', Ext ((W0.alloc (.cells #[vint 0, vint 0, vint 0] 114)).alloc (.cells #[vint 0, vint 0, vint 0] 114)) w' → _ := fun w' he => p0 w' (x4.trans he)
  have p1_4 : ∀ w', Ext ((W0.alloc (.cells #[vint 0, vint 0, vint 0] 114)).alloc (.cells #[vint 0, vint 0, vint 0] 114)) w' → _ := fun w' he => p1 w' (x4.trans he)
  have p2_4 : ∀ w', Ext ((W0.alloc (.cells #[vint 0, vint 0, vint 0] 114)).alloc (.cells #[vint 0, vint 0, vint 0] 114)) w' → _ := fun w' he => p2 w' (x4.trans he)
  have q0_4 : ∀ w', Ext ((W0.alloc (.cells #[vint 0, vint 0, vint 0] 114)).alloc (.cells #[vint 0, vint 0, vint 0] 114)) w' → _ := fun w' he => q0 w' (x4.trans he)
  have q1_4 : ∀ w', Ext ((W0.alloc (.cells #[vint 0, vint 0, vint 0] 114)).alloc (.cells #[vint 0, vint 0, vint 0] 114)) w' → _ := fun w' he => q1 w' (x4.trans he)
  have q2_4 : ∀ w', Ext ((W0.alloc (.cells #[vint 0, vint 0, vint 0] 114)).alloc (.cells #[vint 0, vint 0, vint 0] 114)) w' → _ := fun w' he => q2 w' (x4.trans he)
  have x5 : Ext W0 ((W0.alloc (.cells #[vint ax, vint ay, vint az] 114)).alloc (.cells #[vint 0, vint 0, vint 0] 114)) := ((Ext.refl _).alloc _).alloc _
  have p0_5 : ∀ w', Ext ((W0.alloc (.cells #[vint ax, vint ay, vint az] 114)).alloc (.cells #[vint 0, vint 0, vint 0] 114)) w' → _ := fun w' he => p0 w' (x5.trans he)
  have p1_5 : ∀ w', Ext ((W0.alloc (.cells #[vint ax, vint ay, vint az] 114)).alloc (.cells #[vint 0, vint 0, vint 0] 114)) w' → _ := fun w' he => p1 w' (x5.trans he)
  have p2_5 : ∀ w', Ext ((W0.alloc (.cells #[vint ax, vint ay, vint az] 114)).alloc (.cells #[vint 0, vint 0, vint 0] 114)) w' → _ := fun w' he => p2 w' (x5.trans he)
  have q0_5 : ∀ w', Ext ((W0.alloc (.cells #[vint ax, vint ay, vint az] 114)).alloc (.cells #[vint 0, vint 0, vint 0] 114)) w' → _ := fun w' he => q0 w' (x5.trans he)
  have q1_5 : ∀ w', Ext ((W0.alloc (.cells #[vint ax, vint ay, vint az] 114)).alloc (.cells #[vint 0, vint 0, vint 0] 114)) w' → _ := fun w' he => q1 w' (x5.trans he)
  have q2_5 : ∀ w', Ext ((W0.alloc (.cells #[vint ax, vint ay, vint az] 114)).alloc (.cells #[vint 0, vint 0, vint 0] 114)) w' → _ := fun w' he => q2 w' (x5.trans he)
  have x6 : Ext W0 ((W0.alloc (.cells #[vint 0, vint 0, vint 0] 114)).alloc (.cells #[vint ax, vint ay, vint az] 114)) := ((Ext.refl _).alloc _).alloc _
  have p0_6 : ∀ w', Ext ((W0.alloc (.cells #[vint 0, vint 0, vint 0] 114)).alloc (.cells #[vint ax, vint ay, vint az] 114)) w' → _ := fun w' he => p0 w' (x6.trans he)
  have p1_6 : ∀ w', Ext ((W0.alloc (.cells #[vint 0, vint 0, vint 0] 114)).alloc (.cells #[vint ax, vint ay, vint az] 114)) w' → _ := fun w' he => p1 w' (x6.trans he)
  have p2_6 : ∀ w', Ext ((W0.alloc (.cells #[vint 0, vint 0, vint 0] 114)).alloc (.cells #[vint ax, vint ay, vint az] 114)) w' → _ := fun w' he => p2 w' (x6.trans he)
  have q0_6 : ∀ w', Ext ((W0.alloc (.cells #[vint 0, vint 0, vint 0] 114)).alloc (.cells #[vint ax, vint ay, vint az] 114)) w' → _ := fun w' he => q0 w' (x6.trans he)
  have q1_6 : ∀ w', Ext ((W0.alloc (.cells #[vint 0, vint 0, vint 0] 114)).alloc (.cells #[vint ax, vint ay, vint az] 114)) w' → _ := fun w' he => q1 w' (x6.trans he)
  have q2_6 : ∀ w', Ext ((W0.alloc (.cells #[vint 0, vint 0, vint 0] 114)).alloc (.cells #[vint ax, vint ay, vint az] 114)) w' → _ := fun w' he => q2 w' (x6.trans he)
  have x7 : Ext W0 ((W0.alloc (.cells #[vint bx, vint bY, vint bz] 114)).alloc (.cells #[vint 0, vint 0, vint 0] 114)) := ((Ext.refl _).alloc _).alloc _
  have p0_7 : ∀ w', Ext ((W0.alloc (.cells #[vint bx, vint bY, vint bz] 114)).alloc (.cells #[vint 0, vint 0, vint 0] 114)) w' → _ := fun w' he => p0 w' (x7.trans he)
  have p1_7 : ∀ w', Ext ((W0.alloc (.cells #[vint bx, vint bY, vint bz] 114)).alloc (.cells #[vint 0, vint 0, vint 0] 114)) w' → _ := fun w' he => p1 w' (x7.trans he)
  have p2_7 : ∀ w', Ext ((W0.alloc (.cells #[vint bx, vint bY, vint bz] 114)).alloc (.cells #[vint 0, vint 0, vint 0] 114)) w' → _ := fun w' he => p2 w' (x7.trans he)
  have q0_7 : ∀ w', Ext ((W0.alloc (.cells #[vint bx, vint bY, vint bz] 114)).alloc (.cells #[vint 0, vint 0, vint 0] 114)) w' → _ := fun w' he => q0 w' (x7.trans he)
  have q1_7 : ∀ w', Ext ((W0.alloc (.cells #[vint bx, vint bY, vint bz] 114)).alloc (.cells #[vint 0, vint 0, vint 0] 114)) w' → _ := fun w' he => q1 w' (x7.trans he)
  have q2_7 : ∀ w', Ext ((W0.alloc (.cells #[vint bx, vint bY, vint bz] 114)).alloc (.cells #[vint 0, vint 0, vint 0] 114)) w' → _ := fun w' he => q2 w' (x7.trans he)
  have x8 : Ext W0 ((W0.alloc (.cells #[vint 0, vint 0, vint 0] 114)).alloc (.cells #[vint bx, vint bY, vint bz] 114)) := ((Ext.refl _).alloc _).alloc _
  have p0_8 : ∀ w', Ext ((W0.alloc (.cells #[vint 0, vint 0, vint 0] 114)).alloc (.cells #[vint bx, vint bY, vint bz] 114)) w' → _ := fun w' he => p0 w' (x8.trans he)
  have p1_8 : ∀ w', Ext ((W0.alloc (.cells #[vint 0, vint 0, vint 0] 114)).alloc (.cells #[vint bx, vint bY, vint bz] 114)) w' → _ := fun w' he => p1 w' (x8.trans he)
  have p2_8 : ∀ w', Ext ((W0.alloc (.cells #[vint 0, vint 0, vint 0] 114)).alloc (.cells #[vint bx, vint bY, vint bz] 114)) w' → _ := fun w' he => p2 w' (x8.trans he)
  have q0_8 : ∀ w', Ext ((W0.alloc (.cells #[vint 0, vint 0, vint 0] 114)).alloc (.cells #[vint bx, vint bY, vint bz] 114)) w' → _ := fun w' he => q0 w' (x8.trans he)
  have q1_8 : ∀ w', Ext ((W0.alloc (.cells #[vint 0, vint 0, vint 0] 114)).alloc (.cells #[vint bx, vint bY, vint bz] 114)) w' → _ := fun w' he => q1 w' (x8.trans he)
  have q2_8 : ∀ w', Ext ((W0.alloc (.cells #[vint 0, vint 0, vint 0] 114)).alloc (.cells #[vint bx, vint bY, vint bz] 114)) w' → _ := fun w' he => q2 w' (x8.trans he)
  go_region
  all_goals clear p0_1 p0_2 p0_3 p0_4 p0_5 p0_6 p0_7 p0_8 p1_1 p1_2 p1_3 p1_4 p1_5 p1_6 p1_7 p1_8 p2_1 p2_2 p2_3 p2_4 p2_5 p2_6 p2_7 p2_8 q0_1 q0_2 q0_3 q0_4 q0_5 q0_6 q0_7 q0_8 q1_1 q1_2 q1_3 q1_4 q1_5 q1_6 q1_7 q1_8 q2_1 q2_2 q2_3 q2_4 q2_5 q2_6 q2_7 q2_8 x1 x2 x3 x4 x5 x6 x7 x8 p0 p1 p2 q0 q1 q2
  · have ka : Blk ((W0.alloc (.cells #[.int .i64 ax, .int .i64 ay, .int .i64 az] 114)).alloc (.cells #[.int .i64 bx, .int .i64 bY, .int .i64 az] 114)).drew W0.heap.size [.int .i64 ax, .int .i64 ay, .int .i64 az] := ((Blk.new (W := W0) #[.int .i64 ax, .int .i64 ay, .int .i64 az] 114).ext ((Ext.refl _).alloc _)).ext (Ext.refl _).drew
    have kb : Blk ((W0.alloc (.cells #[.int .i64 ax, .int .i64 ay, .int .i64 az] 114)).alloc (.cells #[.int .i64 bx, .int .i64 bY, .int .i64 az] 114)).drew (W0.heap.size + 1) [.int .i64 bx, .int .i64 bY, .int .i64 az] := (Blk.new' (W := W0.alloc (.cells #[.int .i64 ax, .int .i64 ay, .int .i64 az] 114)) (cs := #[.int .i64 bx, .int .i64 bY, .int .i64 az]) (t := 114) (n := W0.heap.size + 1) (by simp)).ext (Ext.refl _).drew
    have hxd : Ext W0 ((W0.alloc (.cells #[.int .i64 ax, .int .i64 ay, .int .i64 az] 114)).alloc (.cells #[.int .i64 bx, .int .i64 bY, .int .i64 az] 114)).drew := (((Ext.refl _).alloc _).alloc _).drew
    generalize ((W0.alloc (.cells #[.int .i64 ax, .int .i64 ay, .int .i64 az] 114)).alloc (.cells #[.int .i64 bx, .int .i64 bY, .int .i64 az] 114)).drew = w2 at ka kb hxd ⊢
    generalize (W0.heap.size + 1) = gb at *
    generalize W0.heap.size = ga at *
    have a0 := ka.at_ 0 rfl
    have a1 := ka.at_ 1 rfl
    have a2 := ka.at_ 2 rfl
    have c0 := kb.at_ 0 rfl
    have c1 := kb.at_ 1 rfl
    have k6' := K6.out.ext hxd
    have r0 := k6'.at_ 0 rfl
    have r1 := k6'.at_ 1 rfl
    have r2 := k6'.at_ 2 rfl
    have r3 := k6'.at_ 3 rfl
    have r4 := k6'.at_ 4 rfl
    have r5 := k6'.at_ 5 rfl
    have rf := fun j => k6'.free j
    have hw2 := Hx0.out.trans hxd
    clear ka kb
    go_wp2
    have kf := (((((((k6'.ext ((Ext.refl w2).alloc (.cells #[.bool true, .int .i64 (sg * (bY - ay)), .int .i64 (sg * (ax - bx)), .int .i64 (sg * (bY - ay) * ax + sg * (ax - bx) * ay), .int .i64 az, .slice none 0 0] 67))).set (j := 0) (by simp) (.bool true)).set (j := 1) (by simp) (.int .i64 (sg * (bY - ay)))).set (j := 2) (by simp) (.int .i64 (sg * (ax - bx)))).set (j := 3) (by simp) (.int .i64 (sg * (bY - ay) * ax + sg * (ax - bx) * ay))).set (j := 4) (by simp) (.int .i64 az)).set (j := 5) (by simp) (.slice none 0 0))
    refine bodyPost_ret (results_apart rfl _ _ rfl kf) rfl ⟨rfl, ?_⟩
    exact (((((((hw2.alloc _).setCell (Nat.le_refl _) _).setCell (Nat.le_refl _) _).setCell (Nat.le_refl _) _).setCell (Nat.le_refl _) _).setCell (Nat.le_refl _) _).setCell (Nat.le_refl _) _)
  · have ka : Blk ((W0.alloc (.cells #[.int .i64 bx, .int .i64 bY, .int .i64 az] 114)).alloc (.cells #[.int .i64 ax, .int .i64 ay, .int .i64 az] 114)).drew (W0.heap.size + 1) [.int .i64 ax, .int .i64 ay, .int .i64 az] := (Blk.new' (W := W0.alloc (.cells #[.int .i64 bx, .int .i64 bY, .int .i64 az] 114)) (cs := #[.int .i64 ax, .int .i64 ay, .int .i64 az]) (t := 114) (n := W0.heap.size + 1) (by simp)).ext (Ext.refl _).drew
    have kb : Blk ((W0.alloc (.cells #[.int .i64 bx, .int .i64 bY, .int .i64 az] 114)).alloc (.cells #[.int .i64 ax, .int .i64 ay, .int .i64 az] 114)).drew W0.heap.size [.int .i64 bx, .int .i64 bY, .int .i64 az] := ((Blk.new (W := W0) #[.int .i64 bx, .int .i64 bY, .int .i64 az] 114).ext ((Ext.refl _).alloc _)).ext (Ext.refl _).drew
    have hxd : Ext W0 ((W0.alloc (.cells #[.int .i64 bx, .int .i64 bY, .int .i64 az] 114)).alloc (.cells #[.int .i64 ax, .int .i64 ay, .int .i64 az] 114)).drew := (((Ext.refl _).alloc _).alloc _).drew
    generalize ((W0.alloc (.cells #[.int .i64 bx, .int .i64 bY, .int .i64 az] 114)).alloc (.cells #[.int .i64 ax, .int .i64 ay, .int .i64 az] 114)).drew = w2 at ka kb hxd ⊢
    generalize (W0.heap.size + 1) = ga at *
    generalize W0.heap.size = gb at *
    have a0 := ka.at_ 0 rfl
    have a1 := ka.at_ 1 rfl
    have a2 := ka.at_ 2 rfl
    have c0 := kb.at_ 0 rfl
    have c1 := kb.at_ 1 rfl
    have k6' := K6.out.ext hxd
    have r0 := k6'.at_ 0 rfl
    have r1 := k6'.at_ 1 rfl
    have r2 := k6'.at_ 2 rfl
    have r3 := k6'.at_ 3 rfl
    have r4 := k6'.at_ 4 rfl
    have r5 := k6'.at_ 5 rfl
    have rf := fun j => k6'.free j
    have hw2 := Hx0.out.trans hxd
    clear ka kb
    go_wp2
    have kf := (((((((k6'.ext ((Ext.refl w2).alloc (.cells #[.bool true, .int .i64 (sg * (bY - ay)), .int .i64 (sg * (ax - bx)), .int .i64 (sg * (bY - ay) * ax + sg * (ax - bx) * ay), .int .i64 az, .slice none 0 0] 67))).set (j := 0) (by simp) (.bool true)).set (j := 1) (by simp) (.int .i64 (sg * (bY - ay)))).set (j := 2) (by simp) (.int .i64 (sg * (ax - bx)))).set (j := 3) (by simp) (.int .i64 (sg * (bY - ay) * ax + sg * (ax - bx) * ay))).set (j := 4) (by simp) (.int .i64 az)).set (j := 5) (by simp) (.slice none 0 0))
    refine bodyPost_ret (results_apart rfl _ _ rfl kf) rfl ⟨rfl, ?_⟩
    exact (((((((hw2.alloc _).setCell (Nat.le_refl _) _).setCell (Nat.le_refl _) _).setCell (Nat.le_refl _) _).setCell (Nat.le_refl _) _).setCell (Nat.le_refl _) _).setCell (Nat.le_refl _) _)
end Go.Proofs.Yteilglljigjefaa

/- Proofs of whether panels clash: by the code. -/
namespace Go.Proofs.Yteilglljigjefaa
open Go.RowKit
theorem Own.form2 {w1 w : World} {e : TypeId} {size : Nat} {v : Value} {n : Nat} {xs : List Value} (h : Own w1 w e size v n xs) : ∃ A c, v = .slice A n c ∧ n ≤ c := by
  rcases h.2.2 with ⟨rfl, rfl⟩ | ⟨g, cap, cur, rfl, _, _, hc, _⟩
  · exact ⟨none, 0, rfl, Nat.le_refl _⟩
  · exact ⟨_, cap, rfl, hc⟩
section
variable (Ac : Option Addr) (cc : Nat) (c : List Cn) (Ao : Option Addr) (co : Nat) (other : List Cn) (w : World) (hA : CRow w Ac c) (hO : CRow w Ao other) (hc : CnsOk c) (ho : CnsOk other)
include hA hO hc ho
theorem inside_out (h : partP c other) : Calls Try.prog 93 #[.slice Ac c.length cc, .slice Ao other.length co] w fun e w' => ∃ i : Nat, e = .returned (.tuple #[.slice none 0 0, .int .i64 i, .bool false]) ∧ Ext w w' ∧ i < c.length ∧ edgeOut c other i :=
  (inside_any Ac cc c Ao co other w hA hO hc ho).mono fun e w' ⟨v, x, b, he, hx, hr⟩ => by
    rcases hr with ⟨rfl, rfl, i, rfl, h1, h2⟩ | ⟨_, _, ins, _, _, h3⟩
    · exact ⟨i, he, hx, h1, h2⟩
    · exact absurd h (inAt_not fun n hn => ⟨_, h3 n hn⟩)
theorem inside_in (h : ¬ partP c other) : Calls Try.prog 93 #[.slice Ac c.length cc, .slice Ao other.length co] w fun e w' => ∃ (v : Value) (ins : List Int), e = .returned (.tuple #[v, .int .i64 0, .bool true]) ∧ Own w w' 3 1 v c.length (ins.map vint) ∧ ins.length = c.length ∧ ∀ n, n < c.length → inAt c other n (ins.getD n 0) :=
  (inside_any Ac cc c Ao co other w hA hO hc ho).mono fun e w' ⟨v, x, b, he, hx, hr⟩ => by
    rcases hr with ⟨_, _, i, _, h1, h2⟩ | ⟨rfl, rfl, ins, h1, h2, h3⟩
    · exact absurd ⟨i, h1, h2⟩ h
    · exact ⟨v, ins, he, by rw [← h2]; exact h1, h2, h3⟩
end
/-- What apart finds. -/
def ApartRes (w : World) (a b : List Cn) (e : Ending) (w' : World) : Prop := ∃ r I ic, e = .returned (r.val I ic) ∧ AprIn w' r I ic ∧ Ext w w' ∧ rightP r a b ∧ ∀ ad, I = some ad → w.heap.size ≤ ad.block
theorem apr_none {w : World} {r : Apr} (h : r.ins = []) : AprIn w r none 0 := ⟨by rw [h]; exact Ints.nil _ _, by rw [h]; simp, by rw [h]; simp⟩
theorem thr_ins (c : List Cn) (i : Nat) (sg : Int) : (thrA c i sg).ins = [] := rfl
set_option maxRecDepth 100000 in
set_option maxHeartbeats 8000000 in
theorem apart_any (A : Option Addr) (ca : Nat) (a : List Cn) (B : Option Addr) (cb : Nat) (b : List Cn) (w : World) (hA : CRow w A a) (hB : CRow w B b) (hc : CnsOk a) (ho : CnsOk b)
    (H1 : ∀ i, i < a.length → edgeOut a b i → rightP (thrA a i 1) a b) (H2 : ∀ i, i < b.length → edgeOut b a i → rightP (thrA b i (-1)) a b) :
    Calls Try.prog 74 #[.slice A a.length ca, .slice B b.length cb] w (ApartRes w a b) := by
  have kz : Blk (w.alloc (.cells #[.bool false, .int .i64 0, .int .i64 0, .int .i64 0, .int .i64 0, .slice none 0 0] 67)) w.heap.size [.bool false, .int .i64 0, .int .i64 0, .int .i64 0, .int .i64 0, .slice none 0 0] := Blk.new _ _
  have hx0 : Ext w (w.alloc (.cells #[.bool false, .int .i64 0, .int .i64 0, .int .i64 0, .int .i64 0, .slice none 0 0] 67)) := (Ext.refl _).alloc _
  have Hx0 := Lib.hid hx0
  have Kz := Lib.hid kz
  have r0 := kz.at_ 0 rfl
  have r1 := kz.at_ 1 rfl
  have r2 := kz.at_ 2 rfl
  have r3 := kz.at_ 3 rfl
  have r4 := kz.at_ 4 rfl
  have r5 := kz.at_ 5 rfl
  have rf := fun j => kz.free j
  clear hx0 kz
  by_cases h1 : partP a b
  · have ci := fun w' (he : Ext w w') => inside_out A ca a B cb b w' (hA.ext he) (hB.ext he) hc ho h1
    have ct := fun i (hi : i < a.length) w' (he : Ext w w') => through_any A ca a i 1 w' (hA.ext he) hc hi (.inl rfl)
    have hfin : ∀ (i : Nat) (w' : World), i < a.length → edgeOut a b i → Ext w w' → ApartRes w a b (.returned ((thrA a i 1).val none 0)) w' := fun i w' hi he hx => ⟨_, none, 0, rfl, apr_none (thr_ins _ _ _), hx, H1 i hi he, fun ad h => by cases h⟩
    have Ci := Lib.hid ci
    have Ct := Lib.hid ct
    have Hfin := Lib.hid hfin
    clear ci ct hfin H1 H2 hA hB hc ho h1
    obtain ⟨n, hn⟩ : ∃ n, n = a.length := ⟨_, rfl⟩
    rw [← hn] at Ci Ct Hfin ⊢
    clear hn
    generalize b.length = m at *
    go_enter Try.func74, Try.ntmps74
    go_wp2_with (first
      | (go_at_call 93; refine (Ci.out _ Hx0.out).mono ?_; rintro e w1 ⟨i, rfl, hx1, hi, he⟩; have hxx := Hx0.out.trans hx1; have Hi := Lib.hid hi; have He := Lib.hid he; clear hi he; replace r0 : ∀ w', Ext w1 w' → _ := fun w' he => r0 w' (hx1.trans he); replace r1 : ∀ w', Ext w1 w' → _ := fun w' he => r1 w' (hx1.trans he); replace r2 : ∀ w', Ext w1 w' → _ := fun w' he => r2 w' (hx1.trans he); replace r3 : ∀ w', Ext w1 w' → _ := fun w' he => r3 w' (hx1.trans he); replace r4 : ∀ w', Ext w1 w' → _ := fun w' he => r4 w' (hx1.trans he); replace r5 : ∀ w', Ext w1 w' → _ := fun w' he => r5 w' (hx1.trans he); replace rf : ∀ j w', Ext w1 w' → _ := fun j w' he => rf j w' (hx1.trans he))
      | (go_at_call 94; refine (Ct.out i Hi.out _ hxx).mono ?_; rintro e w2 ⟨rfl, hx2⟩; replace r0 : ∀ w', Ext w2 w' → _ := fun w' he => r0 w' (hx2.trans he); replace r1 : ∀ w', Ext w2 w' → _ := fun w' he => r1 w' (hx2.trans he); replace r2 : ∀ w', Ext w2 w' → _ := fun w' he => r2 w' (hx2.trans he); replace r3 : ∀ w', Ext w2 w' → _ := fun w' he => r3 w' (hx2.trans he); replace r4 : ∀ w', Ext w2 w' → _ := fun w' he => r4 w' (hx2.trans he); replace r5 : ∀ w', Ext w2 w' → _ := fun w' he => r5 w' (hx2.trans he); replace rf : ∀ j w', Ext w2 w' → _ := fun j w' he => rf j w' (hx2.trans he)))
    have kf := ((((((((Kz.out.ext hx1).ext hx2).set (j := 0) (by simp) (.bool (thrA a i 1).clear)).set (j := 1) (by simp) (.int .i64 (thrA a i 1).A)).set (j := 2) (by simp) (.int .i64 (thrA a i 1).B)).set (j := 3) (by simp) (.int .i64 (thrA a i 1).C)).set (j := 4) (by simp) (.int .i64 (thrA a i 1).E)).set (j := 5) (by simp) (.slice none 0 0))
    refine bodyPost_ret (results_apart rfl _ _ rfl kf) rfl (Hfin.out i _ Hi.out He.out ?_)
    exact (((((((hxx.trans hx2).setCell (Nat.le_refl _) _).setCell (Nat.le_refl _) _).setCell (Nat.le_refl _) _).setCell (Nat.le_refl _) _).setCell (Nat.le_refl _) _).setCell (Nat.le_refl _) _)
  · have ci := fun w' (he : Ext w w') => inside_in A ca a B cb b w' (hA.ext he) (hB.ext he) hc ho h1
    by_cases h2 : partP b a
    · have cj := fun w' (he : Ext w w') => inside_out B cb b A ca a w' (hB.ext he) (hA.ext he) ho hc h2
      have ct := fun i (hi : i < b.length) w' (he : Ext w w') => through_any B cb b i (-1) w' (hB.ext he) ho hi (.inr rfl)
      have hfin : ∀ (i : Nat) (w' : World), i < b.length → edgeOut b a i → Ext w w' → ApartRes w a b (.returned ((thrA b i (-1)).val none 0)) w' := fun i w' hi he hx => ⟨_, none, 0, rfl, apr_none (thr_ins _ _ _), hx, H2 i hi he, fun ad h => by cases h⟩
      have Ci := Lib.hid ci
      have Cj := Lib.hid cj
      have Ct := Lib.hid ct
      have Hfin := Lib.hid hfin
      clear ci cj ct hfin H1 H2 hA hB hc ho h1 h2
      generalize hn : a.length = n at Ci Cj Ct Hfin ⊢
      generalize hm : b.length = m at Ci Cj Ct Hfin ⊢
      go_enter Try.func74, Try.ntmps74
      go_wp2_with (first
        | (go_at_call 93; ((with_reducible refine (Ci.out _ Hx0.out).mono ?_); rintro e w0 ⟨v, ins, rfl, ho0, hil, hin⟩); have hx0 := ho0.ext; have hxy := Hx0.out.trans hx0; clear hin; replace r0 : ∀ w', Ext w0 w' → _ := fun w' he => r0 w' (hx0.trans he); replace r1 : ∀ w', Ext w0 w' → _ := fun w' he => r1 w' (hx0.trans he); replace r2 : ∀ w', Ext w0 w' → _ := fun w' he => r2 w' (hx0.trans he); replace r3 : ∀ w', Ext w0 w' → _ := fun w' he => r3 w' (hx0.trans he); replace r4 : ∀ w', Ext w0 w' → _ := fun w' he => r4 w' (hx0.trans he); replace r5 : ∀ w', Ext w0 w' → _ := fun w' he => r5 w' (hx0.trans he); replace rf : ∀ j w', Ext w0 w' → _ := fun j w' he => rf j w' (hx0.trans he))
        | (go_at_call 93; ((with_reducible refine (Cj.out _ hxy).mono ?_); rintro e w1 ⟨i, rfl, hx1, hi, he⟩); have hxx := hxy.trans hx1; have Hi := Lib.hid hi; have He := Lib.hid he; clear hi he; replace r0 : ∀ w', Ext w1 w' → _ := fun w' he => r0 w' (hx1.trans he); replace r1 : ∀ w', Ext w1 w' → _ := fun w' he => r1 w' (hx1.trans he); replace r2 : ∀ w', Ext w1 w' → _ := fun w' he => r2 w' (hx1.trans he); replace r3 : ∀ w', Ext w1 w' → _ := fun w' he => r3 w' (hx1.trans he); replace r4 : ∀ w', Ext w1 w' → _ := fun w' he => r4 w' (hx1.trans he); replace r5 : ∀ w', Ext w1 w' → _ := fun w' he => r5 w' (hx1.trans he); replace rf : ∀ j w', Ext w1 w' → _ := fun j w' he => rf j w' (hx1.trans he))
        | (go_at_call 94; refine (Ct.out i Hi.out _ hxx).mono ?_; rintro e w2 ⟨rfl, hx2⟩; replace r0 : ∀ w', Ext w2 w' → _ := fun w' he => r0 w' (hx2.trans he); replace r1 : ∀ w', Ext w2 w' → _ := fun w' he => r1 w' (hx2.trans he); replace r2 : ∀ w', Ext w2 w' → _ := fun w' he => r2 w' (hx2.trans he); replace r3 : ∀ w', Ext w2 w' → _ := fun w' he => r3 w' (hx2.trans he); replace r4 : ∀ w', Ext w2 w' → _ := fun w' he => r4 w' (hx2.trans he); replace r5 : ∀ w', Ext w2 w' → _ := fun w' he => r5 w' (hx2.trans he); replace rf : ∀ j w', Ext w2 w' → _ := fun j w' he => rf j w' (hx2.trans he)))
      have kf := (((((((((Kz.out.ext hx0).ext hx1).ext hx2).set (j := 0) (by simp) (.bool (thrA b i (-1)).clear)).set (j := 1) (by simp) (.int .i64 (thrA b i (-1)).A)).set (j := 2) (by simp) (.int .i64 (thrA b i (-1)).B)).set (j := 3) (by simp) (.int .i64 (thrA b i (-1)).C)).set (j := 4) (by simp) (.int .i64 (thrA b i (-1)).E)).set (j := 5) (by simp) (.slice none 0 0))
      refine bodyPost_ret (results_apart rfl _ _ rfl kf) rfl (Hfin.out i _ Hi.out He.out ?_)
      exact (((((((hxx.trans hx2).setCell (Nat.le_refl _) _).setCell (Nat.le_refl _) _).setCell (Nat.le_refl _) _).setCell (Nat.le_refl _) _).setCell (Nat.le_refl _) _).setCell (Nat.le_refl _) _)
    · have cj := fun w' (he : Ext w w') => inside_in B cb b A ca a w' (hB.ext he) (hA.ext he) ho hc h2
      have hfin : ∀ (i1 i2 : List Int) (I : Option Addr) (ic : Nat) (w' : World), i1.length = a.length → i2.length = b.length → (∀ n, n < a.length → inAt a b n (i1.getD n 0)) → (∀ n, n < b.length → inAt b a n (i2.getD n 0)) → Ints w' I (i1 ++ i2) → a.length + b.length ≤ ic → (∀ ad, I = some ad → w.heap.size ≤ ad.block) → Ext w w' → ApartRes w a b (.returned (.agg #[.bool false, .int .i64 0, .int .i64 0, .int .i64 0, .int .i64 0, .slice I (a.length + b.length) ic])) w' := fun i1 i2 I ic w' l1 l2 h1 h2 hI hic hnew hx => by
        have hl : (i1 ++ i2).length = a.length + b.length := by simp [l1, l2]
        have h8 := hc.len
        have h9 := ho.len
        refine ⟨⟨false, 0, 0, 0, 0, i1 ++ i2⟩, I, ic, by rw [← hl], ⟨hI, by rw [hl]; exact hic, by simp only [hl]; omega⟩, hx, ?_, hnew⟩
        unfold rightP
        rw [if_neg (by simp)]
        refine ⟨⟨rfl, rfl, rfl, rfl⟩, hl, fun n hn => ?_, fun n hn => ?_⟩
        · have e : (i1 ++ i2).getD n 0 = i1.getD n 0 := by simp [List.getD, List.getElem?_append_left (show n < i1.length by omega)]
          simp only
          rw [e]; exact h1 n hn
        · have e : (i1 ++ i2).getD (a.length + n) 0 = i2.getD n 0 := by rw [← l1]; simp [List.getD, List.getElem?_append_right]
          simp only
          rw [e]; exact h2 n hn
      have hn8 := hc.len
      have hm8 := ho.len
      have Ci := Lib.hid ci
      have Cj := Lib.hid cj
      have Hfin := Lib.hid hfin
      clear ci cj hfin H1 H2 hA hB hc ho h1 h2
      generalize hn : a.length = n at Ci Cj Hfin hn8 ⊢
      generalize hm : b.length = m at Ci Cj Hfin hm8 ⊢
      go_enter Try.func74, Try.ntmps74
      go_wp2_with (first
        | (go_at_call 93; ((with_reducible refine (Ci.out _ Hx0.out).mono ?_); rintro e w1 ⟨v1, i1, rfl, ho1, hl1, hin1⟩); have hx1 := ho1.ext; have hxx := Hx0.out.trans hx1; have Hin1 := Lib.hid hin1; clear hin1; replace r0 : ∀ w', Ext w1 w' → _ := fun w' he => r0 w' (hx1.trans he); replace r1 : ∀ w', Ext w1 w' → _ := fun w' he => r1 w' (hx1.trans he); replace r2 : ∀ w', Ext w1 w' → _ := fun w' he => r2 w' (hx1.trans he); replace r3 : ∀ w', Ext w1 w' → _ := fun w' he => r3 w' (hx1.trans he); replace r4 : ∀ w', Ext w1 w' → _ := fun w' he => r4 w' (hx1.trans he); replace r5 : ∀ w', Ext w1 w' → _ := fun w' he => r5 w' (hx1.trans he); replace rf : ∀ j w', Ext w1 w' → _ := fun j w' he => rf j w' (hx1.trans he))
        | (go_at_call 93; ((with_reducible refine (Cj.out _ hxx).mono ?_); rintro e w2 ⟨v2, i2, rfl, ho2, hl2, hin2⟩); have hx2 := ho2.ext; have Hin2 := Lib.hid hin2; clear hin2; obtain ⟨g2, c2, rfl, _, _⟩ := ho2.at_ (by omega); replace r0 : ∀ w', Ext w2 w' → _ := fun w' he => r0 w' (hx2.trans he); replace r1 : ∀ w', Ext w2 w' → _ := fun w' he => r1 w' (hx2.trans he); replace r2 : ∀ w', Ext w2 w' → _ := fun w' he => r2 w' (hx2.trans he); replace r3 : ∀ w', Ext w2 w' → _ := fun w' he => r3 w' (hx2.trans he); replace r4 : ∀ w', Ext w2 w' → _ := fun w' he => r4 w' (hx2.trans he); replace r5 : ∀ w', Ext w2 w' → _ := fun w' he => r5 w' (hx2.trans he); replace rf : ∀ j w', Ext w2 w' → _ := fun j w' he => rf j w' (hx2.trans he))
        | (refine own_append_src (w1 := (w.alloc (.cells #[.bool false, .int .i64 0, .int .i64 0, .int .i64 0, .int .i64 0, .slice none 0 0] 67))) int_elem rfl _ _ 30 rfl Try.underlying30 _ n _ rfl (ho1.later hx2) _ m _ _ rfl (by simpa using hl2) ho2.row (ints_cells_one _) (by omega) (by unfold maxLen; omega) ?_; intro v3 w3 ho3 hg3; obtain ⟨A3, c3, rfl, hc3⟩ := ho3.form2; have hx3 := ho3.ext; replace r0 := (Kz.out.ext hx3).at_ 0 rfl; replace r1 := (Kz.out.ext hx3).at_ 1 rfl; replace r2 := (Kz.out.ext hx3).at_ 2 rfl; replace r3 := (Kz.out.ext hx3).at_ 3 rfl; replace r4 := (Kz.out.ext hx3).at_ 4 rfl; replace r5 := (Kz.out.ext hx3).at_ 5 rfl; replace rf := fun j => (Kz.out.ext hx3).free j))
      have kf := (((((((Kz.out.ext hx3).set (j := 0) (by simp) (.bool false)).set (j := 1) (by simp) (.int .i64 0)).set (j := 2) (by simp) (.int .i64 0)).set (j := 3) (by simp) (.int .i64 0)).set (j := 4) (by simp) (.int .i64 0)).set (j := 5) (by simp) (.slice A3 (n + m) c3))
      have hne : (Value.slice A3 (n + m) c3).ownBlock ≠ some w.heap.size := fun h => by
        have := (ho3.lt h).1
        simp at this
        omega
      have ho4 := (((((((ho3.since Hx0.out).other (p := ⟨w.heap.size, 0, none⟩) (Nat.le_refl _) hne (.bool false)).other (p := ⟨w.heap.size, 1, none⟩) (Nat.le_refl _) hne (.int .i64 0)).other (p := ⟨w.heap.size, 2, none⟩) (Nat.le_refl _) hne (.int .i64 0)).other (p := ⟨w.heap.size, 3, none⟩) (Nat.le_refl _) hne (.int .i64 0)).other (p := ⟨w.heap.size, 4, none⟩) (Nat.le_refl _) hne (.int .i64 0)).other (p := ⟨w.heap.size, 5, none⟩) (Nat.le_refl _) hne (.slice A3 (n + m) c3))
      have hI4 := ho4.row
      rw [← List.map_append] at hI4
      refine bodyPost_ret (results_apart rfl _ _ rfl kf) rfl (Hfin.out i1 i2 A3 c3 _ hl1 hl2 Hin1.out Hin2.out ?_ hc3 (fun ad e => by subst e; have := (ho3.lt (g := ad.block) (by simp [Value.ownBlock])).1; simp at this; omega) ?_)
      · exact hI4
      · exact (((((((Hx0.out.trans hx3).setCell (Nat.le_refl _) _).setCell (Nat.le_refl _) _).setCell (Nat.le_refl _) _).setCell (Nat.le_refl _) _).setCell (Nat.le_refl _) _).setCell (Nat.le_refl _) _)
end Go.Proofs.Yteilglljigjefaa
