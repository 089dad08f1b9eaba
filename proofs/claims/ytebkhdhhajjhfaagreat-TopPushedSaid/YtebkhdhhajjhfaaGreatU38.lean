/- TopPushed holds at every input. -/
import Derived.Test.YtebkhdhhajjhfaaGreatU37
import Derived.Test.YtebkhdhhajjhfaaGreatU16
namespace Go.Proofs.YtebkhdhhajjhfaaGreat.Gr
open Go.RowKit
theorem valid_piston_long (A : Option Addr) (c : Nat) (lift : List Int) (op st : Int) (w : World) (hn : 24 < lift.length) :
    Calls Tryz.prog 9 #[.agg #[.slice A lift.length c, .int .i64 op, .int .i64 st]] w fun e w' => e = .returned (.bool false) ∧ Ext w w' := by
  have h1 : withinB (lift.length : Int) 1 24 = false := by rw [withinB_false]; omega
  clear hn
  generalize lift.length = n at *
  go_enter Tryz.func9, Tryz.ntmps9
  go_wp2_with (go_at_call 26; refine (within_any _ _ _ _).mono ?_; rintro e w' ⟨rfl, rfl⟩)
  go_ret
  exact ⟨rfl, by simp⟩
end Go.Proofs.YtebkhdhhajjhfaaGreat.Gr
namespace Go.Proofs.YtebkhdhhajjhfaaGreat.Lt
open Go Go.RowKit
theorem valid_all (A : Option Addr) (c : Nat) (lift : List Int) (op st : Int) (w : World) (hA : Ints w A lift) :
    Calls Tryz.prog 9 #[.agg #[.slice A lift.length c, .int .i64 op, .int .i64 st]] w fun e w' => e = .returned (.bool (Gr.vpB lift op st)) ∧ Ext w w' := by
  by_cases h : 24 < lift.length
  · have hb : Gr.vpB lift op st = false := by
      cases e : Gr.vpB lift op st with
      | false => rfl
      | true =>
        have hvp : Gr.vpP lift op st := by simpa [Gr.vpB] using e
        have := hvp.2.1
        omega
    rw [hb]
    exact Gr.valid_piston_long A c lift op st w h
  · exact Gr.valid_piston A c lift op st w hA (by omega)
set_option maxRecDepth 100000 in
set_option maxHeartbeats 4000000 in
theorem topPushed_law (A : Option Addr) (c : Nat) (l : List Ki) (M : Option Addr) (mc : Nat) (ms : List Br) (gr : Int) (F : Option Addr) (fc : Nat) (fx : List Int) (H : Option Addr) (hc : Nat) (th : List Int) (bi dir : Int) (LA : Option Addr) (lc : Nat) (lift : List Int) (op st ticks : Int) (w : World)
    (hA : KiRow w A l) (h8 : kindsW l) (hM : BrRow w M ms) (hbw : bricksW ms) (hg : -9223372036854775808 ≤ gr ∧ gr ≤ 9223372036854775807) (hF : Ints w F fx) (hH : Ints w H th) (hL : Ints w LA lift) :
    Calls Tryz.prog 3 #[.slice A l.length c, .agg #[.slice M ms.length mc], .agg #[.int .i64 gr, .slice F fx.length fc], .slice H th.length hc, .int .i64 bi, .int .i64 dir, .agg #[.slice LA lift.length lc, .int .i64 op, .int .i64 st], .int .i64 ticks] w fun e w' => e = .returned (.bool true) ∧ Ext w w' := by
  have Hgt := Lib.hid (fun w' (he : Ext w w') => great03_any l A c M ms.length mc gr F fx.length fc w' (hA.ext he))
  have Hvp := Lib.hid (fun w' (he : Ext w w') => valid_all LA lc lift op st w' (hL.ext he))
  have Hwf := Lib.hid (fun (h1 : fx.length ≤ 60) (h2 : th.length ≤ 60) w' (he : Ext w w') => (waysw_any l A c ms M mc gr fx F fc th H hc bi w' (hA.ext he) h8 (hM.ext he) hbw (hF.ext he) (by omega) hg (hH.ext he) (by omega)).mono (R' := fun e w'' => ∃ QA qc nd er, e = .returned (.tuple #[.slice QA nd qc, .int .i64 er]) ∧ Ext w' w'' ∧ (er = 0 ↔ goodW l ms gr fx th bi)) fun e w'' ⟨QA, qc, ds, er, he1, hx, h0, _⟩ => ⟨QA, qc, ds.length, er, he1, hx, h0⟩)
  have Hcf := Lib.hid (fun (h2 : th.length ≤ 60) (hgw : goodW l ms gr fx th bi) w' (he : Ext w w') => (chosenr_any th H hc ms.length w' (hH.ext he) (by omega) (by have := hgw.1.1.1.2.1; omega)).mono (R' := fun e w'' => e = .returned (.bool true) ∧ Ext w' w'') fun e w'' ⟨v, he1, h1, hx⟩ => by
    obtain rfl := h1.2 hgw.2.1
    exact ⟨he1, hx⟩)
  have Hgb := Lib.hid (fun (hgw : goodW l ms gr fx th bi) => hgw.2.2.1)
  have Hpf := Lib.hid (fun (h1 : fx.length ≤ 60) (h2 : th.length ≤ 60) (h3 : 0 ≤ ticks) (h4 : ticks ≤ 100) (h5 : 0 ≤ dir) (h6 : dir ≤ 5) (hv : Gr.vpB lift op st = true) (hgw : goodW l ms gr fx th bi) => (show ∀ w', Ext w w' → Calls Tryz.prog 12 #[.slice A l.length c, .agg #[.slice M ms.length mc], .agg #[.int .i64 gr, .slice F fx.length fc], .slice H th.length hc, .int .i64 bi, .int .i64 dir, .agg #[.slice LA lift.length lc, .int .i64 op, .int .i64 st], .int .i64 ticks] w' (fun e w'' => ∃ x : Int, e = .returned (.int .i64 x) ∧ Ext w' w'' ∧ x ≥ 0) from fun w' he => by
    have hb := hgw.2.2.1
    obtain ⟨b, rfl⟩ : ∃ b : Nat, bi = (b : Int) := ⟨bi.toNat, by omega⟩
    obtain ⟨d, rfl⟩ : ∃ d : Nat, dir = (d : Int) := ⟨dir.toNat, by omega⟩
    obtain ⟨t, rfl⟩ : ∃ t : Nat, ticks = (t : Int) := ⟨ticks.toNat, by omega⟩
    refine (push_any l A c ms M mc gr fx F fc th H hc b d t lift LA lc op st w' (hA.ext he) h8 (hM.ext he) hbw (hF.ext he) (by omega) hg (hH.ext he) (by omega) (hL.ext he) hv (by omega) (by omega) hgw).mono ?_
    rintro e w'' ⟨x, rfl, hx, h0, _, _⟩
    exact ⟨x, rfl, hx, by omega⟩))
  clear hA h8 hM hbw hg hF hH hL
  generalize goodW l ms gr fx th bi = GW at *
  generalize Gr.vpB lift op st = VB at *
  generalize ms.length = m at *
  generalize l.length = n at *
  generalize fx.length = f at *
  generalize th.length = t at *
  generalize lift.length = ln at *
  have k1 : Blk (((w.alloc (.cells #[.slice M m mc] 25)).alloc (.cells #[.int .i64 gr, .slice F f fc] 28)).alloc (.cells #[.slice LA ln lc, .int .i64 op, .int .i64 st] 30)) w.heap.size [.slice M m mc] := ((Blk.new _ _).ext ((Ext.refl _).alloc _)).ext ((Ext.refl _).alloc _)
  have k2 : Blk (((w.alloc (.cells #[.slice M m mc] 25)).alloc (.cells #[.int .i64 gr, .slice F f fc] 28)).alloc (.cells #[.slice LA ln lc, .int .i64 op, .int .i64 st] 30)) (w.heap.size + 1) [.int .i64 gr, .slice F f fc] := (Blk.new' (by simp)).ext ((Ext.refl _).alloc _)
  have k3 : Blk (((w.alloc (.cells #[.slice M m mc] 25)).alloc (.cells #[.int .i64 gr, .slice F f fc] 28)).alloc (.cells #[.slice LA ln lc, .int .i64 op, .int .i64 st] 30)) (w.heap.size + 1 + 1) [.slice LA ln lc, .int .i64 op, .int .i64 st] := Blk.new' (by simp)
  have hx1 : Ext w (((w.alloc (.cells #[.slice M m mc] 25)).alloc (.cells #[.int .i64 gr, .slice F f fc] 28)).alloc (.cells #[.slice LA ln lc, .int .i64 op, .int .i64 st] 30)) := (((Ext.refl w).alloc _).alloc _).alloc _
  have z0 := k1.at_ 0 rfl
  have y0 := k2.at_ 0 rfl
  have y1 := k2.at_ 1 rfl
  have p0 := k3.at_ 0 rfl
  have p1 := k3.at_ 1 rfl
  have p2 := k3.at_ 2 rfl
  have Hx1 := Lib.hid hx1
  clear k1 k2 k3 hx1
  go_enter Tryz.func3, Tryz.ntmps3
  go_upto_region 1 with (fail)
  generalize (((w.alloc (.cells #[.slice M m mc] 25)).alloc (.cells #[.int .i64 gr, .slice F f fc] 28)).alloc (.cells #[.slice LA ln lc, .int .i64 op, .int .i64 st] 30)) = w1 at *
  obtain ⟨b0, hb0⟩ : ∃ b0, b0 = w.heap.size := ⟨_, rfl⟩
  rw [← hb0] at z0 y0 y1 p0 p1 p2 ⊢
  generalize b0 + 1 + 1 = b2 at *
  generalize b0 + 1 = b1 at *
  clear hb0
  by_cases a1 : (t : Int) > 60
  · clear Hwf Hcf Hpf Hgb Hvp
    go_wp2_with (first
      | (go_at_call 7; refine (alive6_any _).mono ?_; rintro e w2 ⟨rfl, he2⟩; have z0c := fun w' he => z0 w' (he2.trans he); have y0c := fun w' he => y0 w' (he2.trans he); have y1c := fun w' he => y1 w' (he2.trans he); have p0c := fun w' he => p0 w' (he2.trans he); have p1c := fun w' he => p1 w' (he2.trans he); have p2c := fun w' he => p2 w' (he2.trans he); have He2 := Lib.hid (Hx1.out.trans he2); clear he2 z0 y0 y1 p0 p1 p2)
      | (go_at_call 8; refine (Hgt.out _ He2.out).mono ?_; rintro e w3 ⟨v, rfl, he3, hv3⟩; have z0b := fun w' he => z0c w' (he3.trans he); have y0b := fun w' he => y0c w' (he3.trans he); have y1b := fun w' he => y1c w' (he3.trans he); have p0b := fun w' he => p0c w' (he3.trans he); have p1b := fun w' he => p1c w' (he3.trans he); have p2b := fun w' he => p2c w' (he3.trans he); have He3 := Lib.hid (He2.out.trans he3); clear he3 hv3 z0c y0c y1c p0c p1c p2c; cases v))
    all_goals go_ret
    all_goals exact ⟨rfl, He3.out⟩
  by_cases a2 : ticks < 0
  · clear Hwf Hcf Hpf Hgb Hvp
    go_wp2_with (first
      | (go_at_call 7; refine (alive6_any _).mono ?_; rintro e w2 ⟨rfl, he2⟩; have z0c := fun w' he => z0 w' (he2.trans he); have y0c := fun w' he => y0 w' (he2.trans he); have y1c := fun w' he => y1 w' (he2.trans he); have p0c := fun w' he => p0 w' (he2.trans he); have p1c := fun w' he => p1 w' (he2.trans he); have p2c := fun w' he => p2 w' (he2.trans he); have He2 := Lib.hid (Hx1.out.trans he2); clear he2 z0 y0 y1 p0 p1 p2)
      | (go_at_call 8; refine (Hgt.out _ He2.out).mono ?_; rintro e w3 ⟨v, rfl, he3, hv3⟩; have z0b := fun w' he => z0c w' (he3.trans he); have y0b := fun w' he => y0c w' (he3.trans he); have y1b := fun w' he => y1c w' (he3.trans he); have p0b := fun w' he => p0c w' (he3.trans he); have p1b := fun w' he => p1c w' (he3.trans he); have p2b := fun w' he => p2c w' (he3.trans he); have He3 := Lib.hid (He2.out.trans he3); clear he3 hv3 z0c y0c y1c p0c p1c p2c; cases v))
    all_goals go_ret
    all_goals exact ⟨rfl, He3.out⟩
  by_cases a3 : ticks > 100
  · clear Hwf Hcf Hpf Hgb Hvp
    go_wp2_with (first
      | (go_at_call 7; refine (alive6_any _).mono ?_; rintro e w2 ⟨rfl, he2⟩; have z0c := fun w' he => z0 w' (he2.trans he); have y0c := fun w' he => y0 w' (he2.trans he); have y1c := fun w' he => y1 w' (he2.trans he); have p0c := fun w' he => p0 w' (he2.trans he); have p1c := fun w' he => p1 w' (he2.trans he); have p2c := fun w' he => p2 w' (he2.trans he); have He2 := Lib.hid (Hx1.out.trans he2); clear he2 z0 y0 y1 p0 p1 p2)
      | (go_at_call 8; refine (Hgt.out _ He2.out).mono ?_; rintro e w3 ⟨v, rfl, he3, hv3⟩; have z0b := fun w' he => z0c w' (he3.trans he); have y0b := fun w' he => y0c w' (he3.trans he); have y1b := fun w' he => y1c w' (he3.trans he); have p0b := fun w' he => p0c w' (he3.trans he); have p1b := fun w' he => p1c w' (he3.trans he); have p2b := fun w' he => p2c w' (he3.trans he); have He3 := Lib.hid (He2.out.trans he3); clear he3 hv3 z0c y0c y1c p0c p1c p2c; cases v))
    all_goals go_ret
    all_goals exact ⟨rfl, He3.out⟩
  by_cases a4 : dir < 0
  · clear Hwf Hcf Hpf Hgb Hvp
    go_wp2_with (first
      | (go_at_call 7; refine (alive6_any _).mono ?_; rintro e w2 ⟨rfl, he2⟩; have z0c := fun w' he => z0 w' (he2.trans he); have y0c := fun w' he => y0 w' (he2.trans he); have y1c := fun w' he => y1 w' (he2.trans he); have p0c := fun w' he => p0 w' (he2.trans he); have p1c := fun w' he => p1 w' (he2.trans he); have p2c := fun w' he => p2 w' (he2.trans he); have He2 := Lib.hid (Hx1.out.trans he2); clear he2 z0 y0 y1 p0 p1 p2)
      | (go_at_call 8; refine (Hgt.out _ He2.out).mono ?_; rintro e w3 ⟨v, rfl, he3, hv3⟩; have z0b := fun w' he => z0c w' (he3.trans he); have y0b := fun w' he => y0c w' (he3.trans he); have y1b := fun w' he => y1c w' (he3.trans he); have p0b := fun w' he => p0c w' (he3.trans he); have p1b := fun w' he => p1c w' (he3.trans he); have p2b := fun w' he => p2c w' (he3.trans he); have He3 := Lib.hid (He2.out.trans he3); clear he3 hv3 z0c y0c y1c p0c p1c p2c; cases v))
    all_goals go_ret
    all_goals exact ⟨rfl, He3.out⟩
  by_cases a5 : dir > 5
  · clear Hwf Hcf Hpf Hgb Hvp
    go_wp2_with (first
      | (go_at_call 7; refine (alive6_any _).mono ?_; rintro e w2 ⟨rfl, he2⟩; have z0c := fun w' he => z0 w' (he2.trans he); have y0c := fun w' he => y0 w' (he2.trans he); have y1c := fun w' he => y1 w' (he2.trans he); have p0c := fun w' he => p0 w' (he2.trans he); have p1c := fun w' he => p1 w' (he2.trans he); have p2c := fun w' he => p2 w' (he2.trans he); have He2 := Lib.hid (Hx1.out.trans he2); clear he2 z0 y0 y1 p0 p1 p2)
      | (go_at_call 8; refine (Hgt.out _ He2.out).mono ?_; rintro e w3 ⟨v, rfl, he3, hv3⟩; have z0b := fun w' he => z0c w' (he3.trans he); have y0b := fun w' he => y0c w' (he3.trans he); have y1b := fun w' he => y1c w' (he3.trans he); have p0b := fun w' he => p0c w' (he3.trans he); have p1b := fun w' he => p1c w' (he3.trans he); have p2b := fun w' he => p2c w' (he3.trans he); have He3 := Lib.hid (He2.out.trans he3); clear he3 hv3 z0c y0c y1c p0c p1c p2c; cases v))
    all_goals go_ret
    all_goals exact ⟨rfl, He3.out⟩
  cases VB with
  | false =>
    clear Hwf Hcf Hpf Hgb
    go_wp2_with (first
      | (go_at_call 7; refine (alive6_any _).mono ?_; rintro e w2 ⟨rfl, he2⟩; have z0c := fun w' he => z0 w' (he2.trans he); have y0c := fun w' he => y0 w' (he2.trans he); have y1c := fun w' he => y1 w' (he2.trans he); have p0c := fun w' he => p0 w' (he2.trans he); have p1c := fun w' he => p1 w' (he2.trans he); have p2c := fun w' he => p2 w' (he2.trans he); have He2 := Lib.hid (Hx1.out.trans he2); clear he2 z0 y0 y1 p0 p1 p2)
      | (go_at_call 8; refine (Hgt.out _ He2.out).mono ?_; rintro e w3 ⟨v, rfl, he3, hv3⟩; have z0b := fun w' he => z0c w' (he3.trans he); have y0b := fun w' he => y0c w' (he3.trans he); have y1b := fun w' he => y1c w' (he3.trans he); have p0b := fun w' he => p0c w' (he3.trans he); have p1b := fun w' he => p1c w' (he3.trans he); have p2b := fun w' he => p2c w' (he3.trans he); have He3 := Lib.hid (He2.out.trans he3); clear he3 hv3 z0c y0c y1c p0c p1c p2c; cases v)
      | (go_at_call 9; refine (Hvp.out _ He3.out).mono ?_; rintro e w4 ⟨rfl, he4⟩; have z0a := fun w' he => z0b w' (he4.trans he); have y0a := fun w' he => y0b w' (he4.trans he); have y1a := fun w' he => y1b w' (he4.trans he); have p0a := fun w' he => p0b w' (he4.trans he); have p1a := fun w' he => p1b w' (he4.trans he); have p2a := fun w' he => p2b w' (he4.trans he); have He4 := Lib.hid (He3.out.trans he4); clear he4 z0b y0b y1b p0b p1b p2b))
    · go_ret
      exact ⟨rfl, He4.out⟩
    · go_ret
      exact ⟨rfl, He3.out⟩
  | true =>
    by_cases hgw : GW
    · have Hch := Lib.hid (Hcf.out (by omega) hgw)
      have Hwy := Lib.hid (fun h => Hwf.out h (show t ≤ 60 by omega))
      have Hpu := Lib.hid (fun h => Hpf.out h (by omega) (by omega) (by omega) (by omega) (by omega) rfl hgw)
      obtain ⟨hb1, hb2⟩ := Hgb.out hgw
      have hbn0 : ¬ bi < 0 := by omega
      have hbn1 : ¬ bi ≥ (m : Int) := by omega
      have HGW := Lib.hid hgw
      clear Hwf Hcf Hpf Hgb hgw hb1 hb2
      go_wp2_with (first
        | (go_at_call 7; refine (alive6_any _).mono ?_; rintro e w2 ⟨rfl, he2⟩; have z0c := fun w' he => z0 w' (he2.trans he); have y0c := fun w' he => y0 w' (he2.trans he); have y1c := fun w' he => y1 w' (he2.trans he); have p0c := fun w' he => p0 w' (he2.trans he); have p1c := fun w' he => p1 w' (he2.trans he); have p2c := fun w' he => p2 w' (he2.trans he); have He2 := Lib.hid (Hx1.out.trans he2); clear he2 z0 y0 y1 p0 p1 p2)
        | (go_at_call 8; refine (Hgt.out _ He2.out).mono ?_; rintro e w3 ⟨v, rfl, he3, hv3⟩; have z0b := fun w' he => z0c w' (he3.trans he); have y0b := fun w' he => y0c w' (he3.trans he); have y1b := fun w' he => y1c w' (he3.trans he); have p0b := fun w' he => p0c w' (he3.trans he); have p1b := fun w' he => p1c w' (he3.trans he); have p2b := fun w' he => p2c w' (he3.trans he); have He3 := Lib.hid (He2.out.trans he3); clear he3 z0c y0c y1c p0c p1c p2c; have Hv3 := Lib.hid hv3; clear hv3; rcases v with _ | _; (try (have HF := Lib.hid (show f ≤ 60 from by have h := Hv3.out; simpa using h))))
        | (go_at_call 9; refine (Hvp.out _ He3.out).mono ?_; rintro e w4 ⟨rfl, he4⟩; have z0a := fun w' he => z0b w' (he4.trans he); have y0a := fun w' he => y0b w' (he4.trans he); have y1a := fun w' he => y1b w' (he4.trans he); have p0a := fun w' he => p0b w' (he4.trans he); have p1a := fun w' he => p1b w' (he4.trans he); have p2a := fun w' he => p2b w' (he4.trans he); have He4 := Lib.hid (He3.out.trans he4); clear he4 z0b y0b y1b p0b p1b p2b)
        | (go_at_call 10; refine (Hwy.out HF.out _ He4.out).mono ?_; rintro e w5 ⟨QA, qc, nd, er, rfl, he5, hge⟩; obtain rfl := hge.2 HGW.out; clear hge; have z0 := fun w' he => z0a w' (he5.trans he); have y0 := fun w' he => y0a w' (he5.trans he); have y1 := fun w' he => y1a w' (he5.trans he); have p0 := fun w' he => p0a w' (he5.trans he); have p1 := fun w' he => p1a w' (he5.trans he); have p2 := fun w' he => p2a w' (he5.trans he); have He5 := Lib.hid (He4.out.trans he5); clear he5 z0a y0a y1a p0a p1a p2a)
        | (go_at_call 11; refine (Hch.out _ He5.out).mono ?_; rintro e w6 ⟨rfl, he6⟩; have z0a := fun w' he => z0 w' (he6.trans he); have y0a := fun w' he => y0 w' (he6.trans he); have y1a := fun w' he => y1 w' (he6.trans he); have p0a := fun w' he => p0 w' (he6.trans he); have p1a := fun w' he => p1 w' (he6.trans he); have p2a := fun w' he => p2 w' (he6.trans he); have He6 := Lib.hid (He5.out.trans he6); clear he6 z0 y0 y1 p0 p1 p2)
        | (go_at_call 12; refine (Hpu.out HF.out _ He6.out).mono ?_; rintro e w7 ⟨x, rfl, he7, hx0⟩; have He7 := Lib.hid (He6.out.trans he7); clear he7))
      · go_ret
        exact ⟨rfl, He7.out⟩
      · go_ret
        exact ⟨rfl, He3.out⟩
    · have HGW := Lib.hid hgw
      have Hwy := Lib.hid (fun h => Hwf.out h (show t ≤ 60 by omega))
      clear Hwf Hcf Hpf Hgb hgw
      go_wp2_with (first
        | (go_at_call 7; refine (alive6_any _).mono ?_; rintro e w2 ⟨rfl, he2⟩; have z0c := fun w' he => z0 w' (he2.trans he); have y0c := fun w' he => y0 w' (he2.trans he); have y1c := fun w' he => y1 w' (he2.trans he); have p0c := fun w' he => p0 w' (he2.trans he); have p1c := fun w' he => p1 w' (he2.trans he); have p2c := fun w' he => p2 w' (he2.trans he); have He2 := Lib.hid (Hx1.out.trans he2); clear he2 z0 y0 y1 p0 p1 p2)
        | (go_at_call 8; refine (Hgt.out _ He2.out).mono ?_; rintro e w3 ⟨v, rfl, he3, hv3⟩; have z0b := fun w' he => z0c w' (he3.trans he); have y0b := fun w' he => y0c w' (he3.trans he); have y1b := fun w' he => y1c w' (he3.trans he); have p0b := fun w' he => p0c w' (he3.trans he); have p1b := fun w' he => p1c w' (he3.trans he); have p2b := fun w' he => p2c w' (he3.trans he); have He3 := Lib.hid (He2.out.trans he3); clear he3 z0c y0c y1c p0c p1c p2c; have Hv3 := Lib.hid hv3; clear hv3; rcases v with _ | _; (try (have HF := Lib.hid (show f ≤ 60 from by have h := Hv3.out; simpa using h))))
        | (go_at_call 9; refine (Hvp.out _ He3.out).mono ?_; rintro e w4 ⟨rfl, he4⟩; have z0a := fun w' he => z0b w' (he4.trans he); have y0a := fun w' he => y0b w' (he4.trans he); have y1a := fun w' he => y1b w' (he4.trans he); have p0a := fun w' he => p0b w' (he4.trans he); have p1a := fun w' he => p1b w' (he4.trans he); have p2a := fun w' he => p2b w' (he4.trans he); have He4 := Lib.hid (He3.out.trans he4); clear he4 z0b y0b y1b p0b p1b p2b)
        | (go_at_call 10; refine (Hwy.out HF.out _ He4.out).mono ?_; rintro e w5 ⟨QA, qc, nd, er, rfl, he5, hge⟩; have her : (er != 0) = true := (by have : er ≠ 0 := fun h0 => HGW.out (hge.1 h0); simpa using this); clear hge; have z0 := fun w' he => z0a w' (he5.trans he); have y0 := fun w' he => y0a w' (he5.trans he); have y1 := fun w' he => y1a w' (he5.trans he); have p0 := fun w' he => p0a w' (he5.trans he); have p1 := fun w' he => p1a w' (he5.trans he); have p2 := fun w' he => p2a w' (he5.trans he); have He5 := Lib.hid (He4.out.trans he5); clear he5 z0a y0a y1a p0a p1a p2a))
      · go_ret
        exact ⟨rfl, He5.out⟩
      · go_ret
        exact ⟨rfl, He3.out⟩
end Go.Proofs.YtebkhdhhajjhfaaGreat.Lt

/- Arguments of 8 bits, opened. -/
namespace Go.Proofs.YtebkhdhhajjhfaaGreat.Lt
open Go.ChangeShapes Go.WideShapes Go.ChangeAt Go.RowKit
end Go.Proofs.YtebkhdhhajjhfaaGreat.Lt
