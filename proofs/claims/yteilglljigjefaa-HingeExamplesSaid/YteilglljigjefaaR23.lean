/- Which proofs are right: by the reference. -/
import Derived.Test.YteilglljigjefaaR22
namespace Go.Proofs.Yteilglljigjefaa
open Go.RowKit
/-- The two lists of corners, as the reference asks for them. -/
def CrIn (A : Option Addr) (np c : Nat) (B : Option Addr) (nh d i : Nat) (L : List Sp) (m : Nat) (e : Int) (w : World) : Prop :=
  ∀ w', Ext w w' → Calls Try.prog 67 #[.agg #[.slice A np c, .slice B nh d], .int .i64 i] w' fun en w'' => ∃ X x, en = .returned (.tuple #[.slice X m x, .int .i64 e]) ∧ SRow w'' X L ∧ Ext w' w''
theorem crIn_of {A : Option Addr} {c : Nat} {ps : List (List Sp)} {B : Option Addr} {d : Nat} {hs : List Hg} {i : Nat} {w : World} (hL : Lk w A ps B hs) (hl : linkP ps hs) (hi : i < ps.length) : CrIn A ps.length c B hs.length d i (crnS (posF hs i) (pnA ps i)) (crnS (posF hs i) (pnA ps i)).length (posF hs i).d w := fun w' he =>
  (cornered_any A c ps B d hs i w' (hL.ext he) hl hi).mono fun e w'' ⟨v, h, ho⟩ => by
    obtain ⟨X, x, rfl⟩ := ho.form
    exact ⟨X, x, h, ho.row, ho.ext⟩
set_option maxRecDepth 100000 in
set_option maxHeartbeats 4000000 in
theorem rightr_line (rA rB rC rE : Int) (I : Option Addr) (q ic : Nat) (A : Option Addr) (np c : Nat) (B : Option Addr) (nh d i k : Nat) (L1 L2 : List Sp) (m1 m2 : Nat) (e1 e2 : Int) (w : World) (h1 : CrIn A np c B nh d i L1 m1 e1 w) (h2 : CrIn A np c B nh d k L2 m2 e2 w) (R : Bool)
    (hb : ∀ (X Y : Option Addr) (x y : Nat) w', SRow w' X L1 → SRow w' Y L2 → Calls Try.prog 101 #[.agg #[.bool true, vint rA, vint rB, vint rC, vint rE, .slice I q ic], .slice X m1 x, .int .i64 e1, .slice Y m2 y, .int .i64 e2] w' fun en w'' => en = .returned (.bool R) ∧ Ext w' w'') :
    Calls Try.prog 77 #[.agg #[.slice A np c, .slice B nh d], .int .i64 i, .int .i64 k, .agg #[.bool true, vint rA, vint rB, vint rC, vint rE, .slice I q ic]] w fun en w' => en = .returned (.bool R) ∧ Ext w w' := by
  have Hc1 := Lib.hid h1
  have Hc2 := Lib.hid h2
  have Hb := Lib.hid hb
  clear h1 h2 hb
  unfold CrIn at Hc1 Hc2
  have kl : Blk ((w.alloc (.cells #[.slice A np c, .slice B nh d] 25)).alloc (.cells #[.bool true, vint rA, vint rB, vint rC, vint rE, .slice I q ic] 67)) w.heap.size [.slice A np c, .slice B nh d] := (Blk.new _ _).ext ((Ext.refl _).alloc _)
  have ka : Blk ((w.alloc (.cells #[.slice A np c, .slice B nh d] 25)).alloc (.cells #[.bool true, vint rA, vint rB, vint rC, vint rE, .slice I q ic] 67)) (w.heap.size + 1) [.bool true, vint rA, vint rB, vint rC, vint rE, .slice I q ic] := Blk.new' (cs := #[.bool true, vint rA, vint rB, vint rC, vint rE, .slice I q ic]) (by simp)
  have b0 := kl.at_ 0 rfl
  have b1 := kl.at_ 1 rfl
  have a0 := ka.at_ 0 rfl
  have a1 := ka.at_ 1 rfl
  have a2 := ka.at_ 2 rfl
  have a3 := ka.at_ 3 rfl
  have a4 := ka.at_ 4 rfl
  have a5 := ka.at_ 5 rfl
  have hx0 : Ext w ((w.alloc (.cells #[.slice A np c, .slice B nh d] 25)).alloc (.cells #[.bool true, vint rA, vint rB, vint rC, vint rE, .slice I q ic] 67)) := ((Ext.refl _).alloc _).alloc _
  have Hx0 := Lib.hid hx0
  clear kl ka hx0
  go_enter Try.func77, Try.ntmps77
  go_wp2_with (first
      | (go_at_call 67; ((with_reducible refine (Hc1.out _ Hx0.out).mono ?_); rintro e w1 ⟨X1, x1, rfl, hX1, hx1⟩); have hxx := Hx0.out.trans hx1; replace b0 : ∀ w', Ext w1 w' → _ := fun w' he => b0 w' (hx1.trans he); replace b1 : ∀ w', Ext w1 w' → _ := fun w' he => b1 w' (hx1.trans he); replace a0 : ∀ w', Ext w1 w' → _ := fun w' he => a0 w' (hx1.trans he); replace a1 : ∀ w', Ext w1 w' → _ := fun w' he => a1 w' (hx1.trans he); replace a2 : ∀ w', Ext w1 w' → _ := fun w' he => a2 w' (hx1.trans he); replace a3 : ∀ w', Ext w1 w' → _ := fun w' he => a3 w' (hx1.trans he); replace a4 : ∀ w', Ext w1 w' → _ := fun w' he => a4 w' (hx1.trans he); replace a5 : ∀ w', Ext w1 w' → _ := fun w' he => a5 w' (hx1.trans he))
      | (go_at_call 67; ((with_reducible refine (Hc2.out _ hxx).mono ?_); rintro e w2 ⟨X2, x2, rfl, hX2, hx2⟩); have hxy := hxx.trans hx2; replace b0 : ∀ w', Ext w2 w' → _ := fun w' he => b0 w' (hx2.trans he); replace b1 : ∀ w', Ext w2 w' → _ := fun w' he => b1 w' (hx2.trans he); replace a0 : ∀ w', Ext w2 w' → _ := fun w' he => a0 w' (hx2.trans he); replace a1 : ∀ w', Ext w2 w' → _ := fun w' he => a1 w' (hx2.trans he); replace a2 : ∀ w', Ext w2 w' → _ := fun w' he => a2 w' (hx2.trans he); replace a3 : ∀ w', Ext w2 w' → _ := fun w' he => a3 w' (hx2.trans he); replace a4 : ∀ w', Ext w2 w' → _ := fun w' he => a4 w' (hx2.trans he); replace a5 : ∀ w', Ext w2 w' → _ := fun w' he => a5 w' (hx2.trans he))
      | (go_at_call 101; refine (Hb.out X1 X2 x1 x2 _ (hX1.ext hx2) hX2).mono ?_; rintro e w3 ⟨rfl, hx3⟩))
  go_ret
  exact ⟨rfl, hxy.trans hx3⟩
set_option maxRecDepth 100000 in
set_option maxHeartbeats 8000000 in
theorem rightr_none (rA rB rC rE : Int) (I : Option Addr) (q ic : Nat) (A : Option Addr) (np c : Nat) (B : Option Addr) (nh d i k : Nat) (L1 L2 : List Sp) (m1 m2 : Nat) (e1 e2 : Int) (w : World) (h1 : CrIn A np c B nh d i L1 m1 e1 w) (h2 : CrIn A np c B nh d k L2 m2 e2 w) (h3 : m1 ≤ 8) (h4 : m2 ≤ 8)
    (hbad : ¬ ((rA = 0 ∧ rB = 0 ∧ rC = 0 ∧ rE = 0) ∧ q = m1 + m2)) :
    Calls Try.prog 77 #[.agg #[.slice A np c, .slice B nh d], .int .i64 i, .int .i64 k, .agg #[.bool false, vint rA, vint rB, vint rC, vint rE, .slice I q ic]] w fun en w' => en = .returned (.bool false) ∧ Ext w w' := by
  have Hc1 := Lib.hid h1
  have Hc2 := Lib.hid h2
  clear h1 h2
  unfold CrIn at Hc1 Hc2
  have kl : Blk ((w.alloc (.cells #[.slice A np c, .slice B nh d] 25)).alloc (.cells #[.bool false, vint rA, vint rB, vint rC, vint rE, .slice I q ic] 67)) w.heap.size [.slice A np c, .slice B nh d] := (Blk.new _ _).ext ((Ext.refl _).alloc _)
  have ka : Blk ((w.alloc (.cells #[.slice A np c, .slice B nh d] 25)).alloc (.cells #[.bool false, vint rA, vint rB, vint rC, vint rE, .slice I q ic] 67)) (w.heap.size + 1) [.bool false, vint rA, vint rB, vint rC, vint rE, .slice I q ic] := Blk.new' (cs := #[.bool false, vint rA, vint rB, vint rC, vint rE, .slice I q ic]) (by simp)
  have b0 := kl.at_ 0 rfl
  have b1 := kl.at_ 1 rfl
  have a0 := ka.at_ 0 rfl
  have a1 := ka.at_ 1 rfl
  have a2 := ka.at_ 2 rfl
  have a3 := ka.at_ 3 rfl
  have a4 := ka.at_ 4 rfl
  have a5 := ka.at_ 5 rfl
  have hx0 : Ext w ((w.alloc (.cells #[.slice A np c, .slice B nh d] 25)).alloc (.cells #[.bool false, vint rA, vint rB, vint rC, vint rE, .slice I q ic] 67)) := ((Ext.refl _).alloc _).alloc _
  have Hx0 := Lib.hid hx0
  clear kl ka hx0
  by_cases c0 : rA = 0
  · have g0 : (rA != 0) = false := by simpa using c0
    by_cases c1 : rB = 0
    · have g1 : (rB != 0) = false := by simpa using c1
      by_cases c2 : rC = 0
      · have g2 : (rC != 0) = false := by simpa using c2
        by_cases c3 : rE = 0
        · have g3 : (rE != 0) = false := by simpa using c3
          have d5 : ((q : Int) != (m1 : Int) + (m2 : Int)) = true := by
            have : ¬ q = m1 + m2 := fun h => hbad ⟨⟨c0, c1, c2, c3⟩, h⟩
            simp; omega
          clear hbad c0 c1 c2 c3
          go_enter Try.func77, Try.ntmps77
          go_wp2_with (first
                | (go_at_call 67; ((with_reducible refine (Hc1.out _ Hx0.out).mono ?_); rintro e w1 ⟨X1, x1, rfl, hX1, hx1⟩); have hxx := Hx0.out.trans hx1; replace b0 : ∀ w', Ext w1 w' → _ := fun w' he => b0 w' (hx1.trans he); replace b1 : ∀ w', Ext w1 w' → _ := fun w' he => b1 w' (hx1.trans he); replace a0 : ∀ w', Ext w1 w' → _ := fun w' he => a0 w' (hx1.trans he); replace a1 : ∀ w', Ext w1 w' → _ := fun w' he => a1 w' (hx1.trans he); replace a2 : ∀ w', Ext w1 w' → _ := fun w' he => a2 w' (hx1.trans he); replace a3 : ∀ w', Ext w1 w' → _ := fun w' he => a3 w' (hx1.trans he); replace a4 : ∀ w', Ext w1 w' → _ := fun w' he => a4 w' (hx1.trans he); replace a5 : ∀ w', Ext w1 w' → _ := fun w' he => a5 w' (hx1.trans he))
                | (go_at_call 67; ((with_reducible refine (Hc2.out _ hxx).mono ?_); rintro e w2 ⟨X2, x2, rfl, hX2, hx2⟩); have hxy := hxx.trans hx2; replace b0 : ∀ w', Ext w2 w' → _ := fun w' he => b0 w' (hx2.trans he); replace b1 : ∀ w', Ext w2 w' → _ := fun w' he => b1 w' (hx2.trans he); replace a0 : ∀ w', Ext w2 w' → _ := fun w' he => a0 w' (hx2.trans he); replace a1 : ∀ w', Ext w2 w' → _ := fun w' he => a1 w' (hx2.trans he); replace a2 : ∀ w', Ext w2 w' → _ := fun w' he => a2 w' (hx2.trans he); replace a3 : ∀ w', Ext w2 w' → _ := fun w' he => a3 w' (hx2.trans he); replace a4 : ∀ w', Ext w2 w' → _ := fun w' he => a4 w' (hx2.trans he); replace a5 : ∀ w', Ext w2 w' → _ := fun w' he => a5 w' (hx2.trans he)))
          go_ret
          exact ⟨rfl, hxy⟩
        · have d4 : (rE != 0) = true := by simpa using c3
          clear hbad c0 c1 c2 c3
          go_enter Try.func77, Try.ntmps77
          go_wp2_with (first
                | (go_at_call 67; ((with_reducible refine (Hc1.out _ Hx0.out).mono ?_); rintro e w1 ⟨X1, x1, rfl, hX1, hx1⟩); have hxx := Hx0.out.trans hx1; replace b0 : ∀ w', Ext w1 w' → _ := fun w' he => b0 w' (hx1.trans he); replace b1 : ∀ w', Ext w1 w' → _ := fun w' he => b1 w' (hx1.trans he); replace a0 : ∀ w', Ext w1 w' → _ := fun w' he => a0 w' (hx1.trans he); replace a1 : ∀ w', Ext w1 w' → _ := fun w' he => a1 w' (hx1.trans he); replace a2 : ∀ w', Ext w1 w' → _ := fun w' he => a2 w' (hx1.trans he); replace a3 : ∀ w', Ext w1 w' → _ := fun w' he => a3 w' (hx1.trans he); replace a4 : ∀ w', Ext w1 w' → _ := fun w' he => a4 w' (hx1.trans he); replace a5 : ∀ w', Ext w1 w' → _ := fun w' he => a5 w' (hx1.trans he))
                | (go_at_call 67; ((with_reducible refine (Hc2.out _ hxx).mono ?_); rintro e w2 ⟨X2, x2, rfl, hX2, hx2⟩); have hxy := hxx.trans hx2; replace b0 : ∀ w', Ext w2 w' → _ := fun w' he => b0 w' (hx2.trans he); replace b1 : ∀ w', Ext w2 w' → _ := fun w' he => b1 w' (hx2.trans he); replace a0 : ∀ w', Ext w2 w' → _ := fun w' he => a0 w' (hx2.trans he); replace a1 : ∀ w', Ext w2 w' → _ := fun w' he => a1 w' (hx2.trans he); replace a2 : ∀ w', Ext w2 w' → _ := fun w' he => a2 w' (hx2.trans he); replace a3 : ∀ w', Ext w2 w' → _ := fun w' he => a3 w' (hx2.trans he); replace a4 : ∀ w', Ext w2 w' → _ := fun w' he => a4 w' (hx2.trans he); replace a5 : ∀ w', Ext w2 w' → _ := fun w' he => a5 w' (hx2.trans he)))
          go_ret
          exact ⟨rfl, hxy⟩
      · have d3 : (rC != 0) = true := by simpa using c2
        clear hbad c0 c1 c2
        go_enter Try.func77, Try.ntmps77
        go_wp2_with (first
              | (go_at_call 67; ((with_reducible refine (Hc1.out _ Hx0.out).mono ?_); rintro e w1 ⟨X1, x1, rfl, hX1, hx1⟩); have hxx := Hx0.out.trans hx1; replace b0 : ∀ w', Ext w1 w' → _ := fun w' he => b0 w' (hx1.trans he); replace b1 : ∀ w', Ext w1 w' → _ := fun w' he => b1 w' (hx1.trans he); replace a0 : ∀ w', Ext w1 w' → _ := fun w' he => a0 w' (hx1.trans he); replace a1 : ∀ w', Ext w1 w' → _ := fun w' he => a1 w' (hx1.trans he); replace a2 : ∀ w', Ext w1 w' → _ := fun w' he => a2 w' (hx1.trans he); replace a3 : ∀ w', Ext w1 w' → _ := fun w' he => a3 w' (hx1.trans he); replace a4 : ∀ w', Ext w1 w' → _ := fun w' he => a4 w' (hx1.trans he); replace a5 : ∀ w', Ext w1 w' → _ := fun w' he => a5 w' (hx1.trans he))
              | (go_at_call 67; ((with_reducible refine (Hc2.out _ hxx).mono ?_); rintro e w2 ⟨X2, x2, rfl, hX2, hx2⟩); have hxy := hxx.trans hx2; replace b0 : ∀ w', Ext w2 w' → _ := fun w' he => b0 w' (hx2.trans he); replace b1 : ∀ w', Ext w2 w' → _ := fun w' he => b1 w' (hx2.trans he); replace a0 : ∀ w', Ext w2 w' → _ := fun w' he => a0 w' (hx2.trans he); replace a1 : ∀ w', Ext w2 w' → _ := fun w' he => a1 w' (hx2.trans he); replace a2 : ∀ w', Ext w2 w' → _ := fun w' he => a2 w' (hx2.trans he); replace a3 : ∀ w', Ext w2 w' → _ := fun w' he => a3 w' (hx2.trans he); replace a4 : ∀ w', Ext w2 w' → _ := fun w' he => a4 w' (hx2.trans he); replace a5 : ∀ w', Ext w2 w' → _ := fun w' he => a5 w' (hx2.trans he)))
        go_ret
        exact ⟨rfl, hxy⟩
    · have d2 : (rB != 0) = true := by simpa using c1
      clear hbad c0 c1
      go_enter Try.func77, Try.ntmps77
      go_wp2_with (first
            | (go_at_call 67; ((with_reducible refine (Hc1.out _ Hx0.out).mono ?_); rintro e w1 ⟨X1, x1, rfl, hX1, hx1⟩); have hxx := Hx0.out.trans hx1; replace b0 : ∀ w', Ext w1 w' → _ := fun w' he => b0 w' (hx1.trans he); replace b1 : ∀ w', Ext w1 w' → _ := fun w' he => b1 w' (hx1.trans he); replace a0 : ∀ w', Ext w1 w' → _ := fun w' he => a0 w' (hx1.trans he); replace a1 : ∀ w', Ext w1 w' → _ := fun w' he => a1 w' (hx1.trans he); replace a2 : ∀ w', Ext w1 w' → _ := fun w' he => a2 w' (hx1.trans he); replace a3 : ∀ w', Ext w1 w' → _ := fun w' he => a3 w' (hx1.trans he); replace a4 : ∀ w', Ext w1 w' → _ := fun w' he => a4 w' (hx1.trans he); replace a5 : ∀ w', Ext w1 w' → _ := fun w' he => a5 w' (hx1.trans he))
            | (go_at_call 67; ((with_reducible refine (Hc2.out _ hxx).mono ?_); rintro e w2 ⟨X2, x2, rfl, hX2, hx2⟩); have hxy := hxx.trans hx2; replace b0 : ∀ w', Ext w2 w' → _ := fun w' he => b0 w' (hx2.trans he); replace b1 : ∀ w', Ext w2 w' → _ := fun w' he => b1 w' (hx2.trans he); replace a0 : ∀ w', Ext w2 w' → _ := fun w' he => a0 w' (hx2.trans he); replace a1 : ∀ w', Ext w2 w' → _ := fun w' he => a1 w' (hx2.trans he); replace a2 : ∀ w', Ext w2 w' → _ := fun w' he => a2 w' (hx2.trans he); replace a3 : ∀ w', Ext w2 w' → _ := fun w' he => a3 w' (hx2.trans he); replace a4 : ∀ w', Ext w2 w' → _ := fun w' he => a4 w' (hx2.trans he); replace a5 : ∀ w', Ext w2 w' → _ := fun w' he => a5 w' (hx2.trans he)))
      go_ret
      exact ⟨rfl, hxy⟩
  · have d1 : (rA != 0) = true := by simpa using c0
    clear hbad c0
    go_enter Try.func77, Try.ntmps77
    go_wp2_with (first
          | (go_at_call 67; ((with_reducible refine (Hc1.out _ Hx0.out).mono ?_); rintro e w1 ⟨X1, x1, rfl, hX1, hx1⟩); have hxx := Hx0.out.trans hx1; replace b0 : ∀ w', Ext w1 w' → _ := fun w' he => b0 w' (hx1.trans he); replace b1 : ∀ w', Ext w1 w' → _ := fun w' he => b1 w' (hx1.trans he); replace a0 : ∀ w', Ext w1 w' → _ := fun w' he => a0 w' (hx1.trans he); replace a1 : ∀ w', Ext w1 w' → _ := fun w' he => a1 w' (hx1.trans he); replace a2 : ∀ w', Ext w1 w' → _ := fun w' he => a2 w' (hx1.trans he); replace a3 : ∀ w', Ext w1 w' → _ := fun w' he => a3 w' (hx1.trans he); replace a4 : ∀ w', Ext w1 w' → _ := fun w' he => a4 w' (hx1.trans he); replace a5 : ∀ w', Ext w1 w' → _ := fun w' he => a5 w' (hx1.trans he))
          | (go_at_call 67; ((with_reducible refine (Hc2.out _ hxx).mono ?_); rintro e w2 ⟨X2, x2, rfl, hX2, hx2⟩); have hxy := hxx.trans hx2; replace b0 : ∀ w', Ext w2 w' → _ := fun w' he => b0 w' (hx2.trans he); replace b1 : ∀ w', Ext w2 w' → _ := fun w' he => b1 w' (hx2.trans he); replace a0 : ∀ w', Ext w2 w' → _ := fun w' he => a0 w' (hx2.trans he); replace a1 : ∀ w', Ext w2 w' → _ := fun w' he => a1 w' (hx2.trans he); replace a2 : ∀ w', Ext w2 w' → _ := fun w' he => a2 w' (hx2.trans he); replace a3 : ∀ w', Ext w2 w' → _ := fun w' he => a3 w' (hx2.trans he); replace a4 : ∀ w', Ext w2 w' → _ := fun w' he => a4 w' (hx2.trans he); replace a5 : ∀ w', Ext w2 w' → _ := fun w' he => a5 w' (hx2.trans he)))
    go_ret
    exact ⟨rfl, hxy⟩
end Go.Proofs.Yteilglljigjefaa
