/- The law TopGrid's walk. -/
import Derived.Test.YtebkhdhhajjhfaaGreatTFg
namespace Go.Proofs.YtebkhdhhajjhfaaGreat.Lt
open Go.RowKit
theorem neq_ps (a0 a1 a2 a3 a4 : Int) (w : World) : (binOp .neq 78 (.agg #[.int .i64 a0, .int .i64 a1, .int .i64 a2, .int .i64 a3, .int .i64 a4]) (.agg #[.int .i64 a0, .int .i64 a1, .int .i64 a2, .int .i64 a3, .int .i64 a4])).run Tryz.prog w = .ok (.bool false) w := by
  simp [go_sem]
set_option maxRecDepth 100000 in
set_option maxHeartbeats 4000000 in
theorem topGrid_law (A : Option Addr) (c : Nat) (ps : List (List Sp)) (B : Option Addr) (d : Nat) (hs : List Hg) (w : World) (hA : PnRow w A ps) (hB : HRow w B hs) :
    Calls Tryz.prog 6 #[.agg #[.slice A ps.length c, .slice B hs.length d]] w fun e w' => e = .returned (.bool true) ∧ Ext w w' := by
  have hal := fun w' => alive_any w'
  have hg := fun w' (he : Ext w w') => great_any A c ps B d hs w' (hA.ext he)
  have hpo := fun (h : ¬ greatP ps hs) w' (he : Ext w w') => poses_all A c ps B d hs w' ((lk_of hA hB h).ext he)
  have hh := fun k (hk : k < hs.length) => hB.at_ hk
  have hlk := linkB_eq (ps := ps) (hs := hs)
  have hrn := fun (hl : linkP ps hs) (hang : ∀ j, j < hs.length → 0 ≤ (hgA hs j).ang ∧ (hgA hs j).ang ≤ 3) k (hk : k < hs.length) => rnd_of hl hang hk
  have hgr := fun (hang : ∀ j, j < hs.length → 0 ≤ (hgA hs j).ang ∧ (hgA hs j).ang ≤ 3) k (hk : k ≤ hs.length) => psA_grid hang hk
  have hn3 := fun (hl : linkP ps hs) => hl.nh
  have hpl := posesL_len hs
  have hn10 : ¬ greatP ps hs → hs.length ≤ 10 := fun h => by unfold greatP at h; omega
  have Hal := Lib.hid hal
  have Hg := Lib.hid hg
  have Hpo := Lib.hid hpo
  have Hh := Lib.hid hh
  have Hlk := Lib.hid hlk
  have Hrn := Lib.hid hrn
  have Hgr := Lib.hid hgr
  have Hn3 := Lib.hid hn3
  have Hpl := Lib.hid hpl
  have kb : Blk (w.alloc (.cells #[.slice A ps.length c, .slice B hs.length d] 67)) w.heap.size [.slice A ps.length c, .slice B hs.length d] := Blk.new _ _
  have z0 := kb.at_ 0 rfl
  have z1 := kb.at_ 1 rfl
  have H0 := Lib.hid (show Ext w (w.alloc (.cells #[.slice A ps.length c, .slice B hs.length d] 67)) from (Ext.refl _).alloc _)
  clear hal hg hpo hh hlk hrn hgr hn3 hpl kb hA hB
  have hgb : greatB ps hs = true ∨ greatB ps hs = false ∧ ¬ greatP ps hs := by
    cases h : greatB ps hs
    · exact .inr ⟨rfl, fun h' => by rw [greatB_iff.2 h'] at h; cases h⟩
    · exact .inl rfl
  generalize greatB ps hs = gb at *
  generalize ps.length = np at *
  obtain ⟨n, hnE⟩ : ∃ n, n = hs.length := ⟨_, rfl⟩
  simp only [← hnE] at hn10 Hg Hpo Hh Hrn Hgr Hn3 Hpl z0 z1 H0 ⊢
  clear hnE
  rcases hgb with rfl | ⟨rfl, hng⟩
  · clear hn10
    go_enter Tryz.func6, Tryz.ntmps6
    go_wp2_with (first
      | (go_at_call 13; refine (Hal.out _).mono ?_; rintro e w1 ⟨rfl, hx1⟩; have y0 := fun w' (he : Ext w1 w') => z0 w' (hx1.trans he); have y1 := fun w' (he : Ext w1 w') => z1 w' (hx1.trans he); have H1 := Lib.hid (H0.out.trans hx1); clear z0 z1 hx1)
      | (go_at_call 20; refine (Hg.out _ H1.out).mono ?_; rintro e w2 ⟨rfl, hx2⟩; have H2 := Lib.hid (H1.out.trans hx2); clear hx2))
    go_ret
    exact ⟨rfl, H2.out⟩
  have hn10 := hn10 hng
  have hpo := Hpo.out hng
  have Hpo2 := Lib.hid hpo
  clear hpo Hpo hng
  go_enter Tryz.func6, Tryz.ntmps6
  go_wp2_with (first
    | (go_at_call 13; refine (Hal.out _).mono ?_; rintro e w1 ⟨rfl, hx1⟩; have y0 := fun w' (he : Ext w1 w') => z0 w' (hx1.trans he); have y1 := fun w' (he : Ext w1 w') => z1 w' (hx1.trans he); have H1 := Lib.hid (H0.out.trans hx1); clear z0 z1 hx1)
    | (go_at_call 20; refine (Hg.out _ H1.out).mono ?_; rintro e w2 ⟨rfl, hx2⟩; have v0 := fun w' (he : Ext w2 w') => y0 w' (hx2.trans he); have v1 := fun w' (he : Ext w2 w') => y1 w' (hx2.trans he); have H2 := Lib.hid (H1.out.trans hx2); clear y0 y1 hx2))
  clear Hg Hal
  have V := Lib.hid (And.intro v0 v1)
  clear v0 v1
  go_loopw [27] (fun i wr => ∃ k : Nat, k ≤ n ∧ i = .int .i64 k ∧ Ext w2 wr ∧ ∀ j, j < k → 0 ≤ (hgA hs j).ang ∧ (hgA hs j).ang ≤ 3) (fun i _ => n - (intOf i).toNat)
  case atStart => exact ⟨0, by omega, rfl, Ext.refl _, fun j h => absurd h (by omega)⟩
  case round =>
    obtain ⟨k, hk, rfl, hex, hall⟩ := hrel
    have Hall := Lib.hid hall
    clear hall
    by_cases hlt : k < n
    · have hki : (k : Int) < (n : Int) := by omega
      obtain ⟨ad, rfl, a0, a1, a2, a3, a4⟩ := Hh.out k hlt
      have hxw := H2.out.trans hex
      have u0 := fun w' he => a0 w' (hxw.trans he)
      have u1 := fun w' he => a1 w' (hxw.trans he)
      have u2 := fun w' he => a2 w' (hxw.trans he)
      have u3 := fun w' he => a3 w' (hxw.trans he)
      have u4 := fun w' he => a4 w' (hxw.trans he)
      have Hx := Lib.hid (And.intro hex hxw)
      have hst := fun (h : 0 ≤ (hgA hs k).ang ∧ (hgA hs k).ang ≤ 3) j (hj : j < k + 1) => (show 0 ≤ (hgA hs j).ang ∧ (hgA hs j).ang ≤ 3 from by
        rcases (by omega : j < k ∨ j = k) with h' | rfl
        · exact Hall.out j h'
        · exact h)
      have Hst := Lib.hid hst
      clear a0 a1 a2 a3 a4 hex hxw hst Hall Hh Hlk Hrn Hgr Hn3 Hpl Hpo2 V
      by_cases h1 : (hgA hs k).ang < 0
      · generalize hgA hs k = h at *
        obtain ⟨⟨ax, ay⟩, ⟨bx, by'⟩, ang⟩ := h
        simp only at u0 u1 u2 u3 u4 h1
        clear Hst
        go_wp2
        go_ret
        exact ⟨rfl, Hx.out.2.alloc _⟩
      · by_cases h2 : 3 < (hgA hs k).ang
        · generalize hgA hs k = h at *
          obtain ⟨⟨ax, ay⟩, ⟨bx, by'⟩, ang⟩ := h
          simp only at u0 u1 u2 u3 u4 h1 h2
          clear Hst
          go_wp2
          go_ret
          exact ⟨rfl, Hx.out.2.alloc _⟩
        · have hst2 := Lib.hid (Hst.out ⟨by omega, by omega⟩)
          clear Hst
          obtain ⟨⟨⟨ax, ay⟩, ⟨bx, by'⟩, ang⟩, hh⟩ : ∃ h, hgA hs k = h := ⟨_, rfl⟩
          rw [hh] at u0 u1 u2 u3 u4 h1 h2
          simp only at u0 u1 u2 u3 u4 h1 h2
          clear hh
          go_wp2
          go_roundw
          case rel => exact ⟨k + 1, by omega, by go_num, Hx.out.1.alloc _, hst2.out⟩
          case measure => simp [intOf]; omega
    · obtain rfl : n = k := by omega
      have hxw := H2.out.trans hex
      have v0 := fun w' he => V.out.1 w' (hex.trans he)
      have v1 := fun w' he => V.out.2 w' (hex.trans he)
      have H3 := Lib.hid hxw
      clear V hex hxw H0 H1 H2
      have hpw := Hpo2.out wr H3.out
      clear Hpo2
      rcases Hlk.out with ⟨h1, h2, h3⟩ | ⟨_, h2, h3⟩
      · rw [h3] at hpw
        unfold posesR at hpw
        rw [if_pos h2] at hpw
        have hrn := Hrn.out h1 Hall.out
        have hgr := Hgr.out Hall.out
        have hn3 := Hn3.out h1
        have Hpw := Lib.hid hpw
        have Hrn2 := Lib.hid hrn
        have Hgr2 := Lib.hid hgr
        clear hpw hrn hgr h1 h2 h3 Hlk Hrn Hgr Hn3 Hall hk hlt
        go_wp2_with (go_at_call 21; refine (Hpw.out).mono ?_; rintro e w4 ⟨v, rfl, hv⟩; obtain ⟨X, x, rfl⟩ := hv.form; have hx4 := hv.ext; have t0 := fun w' (he : Ext w4 w') => v0 w' (hx4.trans he); have t1 := fun w' (he : Ext w4 w') => v1 w' (hx4.trans he); have H4 := Lib.hid (H3.out.trans hx4); have Hr4 := Lib.hid hv.row; have hpl := Hpl.out; have hw9 : IntKind.i64.wrap ((n : Int) + 1) = ((n + 1 : Nat) : Int) := (by rw [IntKind.wrap_i64]; omega); rw [hpl]; clear v0 v1 hx4 hv Hpw)
        obtain ⟨g9, hg9⟩ : ∃ g9, g9 = w4.heap.size := ⟨_, rfl⟩
        have k9 : Blk (w4.alloc (.cells #[.int .i64 0, .int .i64 0, .int .i64 0] 60)) g9 [.int .i64 0, .int .i64 0, .int .i64 0] := Blk.new' hg9.symm
        have hx9 : Ext w4 (w4.alloc (.cells #[.int .i64 0, .int .i64 0, .int .i64 0] 60)) := (Ext.refl _).alloc _
        rw [← hg9]
        have Hg9 := Lib.hid (show w4.heap.size ≤ g9 from Nat.le_of_eq hg9.symm)
        have hpr := fun k (hk : k < n) => PRow.at_ (l := posesL hs) Hr4.out (k := k + 1) (by rw [Hpl.out]; omega)
        have Hpr := Lib.hid hpr
        have K9 := Lib.hid (And.intro hx9 k9)
        generalize (w4.alloc (.cells #[.int .i64 0, .int .i64 0, .int .i64 0] 60)) = W0 at *
        clear hg9 hx9 k9 hpr Hr4 Hpl t0 t1 H3 hpl hw9
        go_loopw [60, 8] (fun i t wr => ∃ k : Nat, k ≤ n ∧ i = .int .i64 k ∧ t = .int .i64 (gT hs k : Nat) ∧ Ext w4 wr ∧ Blk wr g9 [.int .i64 (gP hs k).x, .int .i64 (gP hs k).y, .int .i64 0]) (fun i _ _ => n - (intOf i).toNat)
        case atStart => exact ⟨0, by omega, rfl, rfl, K9.out.1, K9.out.2⟩
        case round =>
          clear K9
          obtain ⟨k, hk, rfl, rfl, hex, k9⟩ := hrel
          by_cases hlt : k < n
          · have hki : (k : Int) < (n : Int) := by omega
            obtain ⟨ad, rfl, a0, a1, a2, a3, a4⟩ := Hh.out k hlt
            obtain ⟨pd, rfl, p0, p1, p2, p3, p4⟩ := Hpr.out k hlt
            rw [Hgr2.out (k + 1) (by omega)] at p0 p1 p2 p3 p4
            simp only at p0 p1 p2 p3 p4
            have hr := Hrn2.out k hlt
            have hxw := H4.out.trans hex
            have u0 := fun w' he => a0 w' (hxw.trans he)
            have u1 := fun w' he => a1 w' (hxw.trans he)
            have u2 := fun w' he => a2 w' (hxw.trans he)
            have u3 := fun w' he => a3 w' (hxw.trans he)
            have u4 := fun w' he => a4 w' (hxw.trans he)
            have Hp := Lib.hid (And.intro p0 (And.intro p1 (And.intro p2 (And.intro p3 p4))))
            have Hx := Lib.hid hex
            have K9 := Lib.hid k9
            clear a0 a1 a2 a3 a4 p0 p1 p2 p3 p4 hxw hex k9 Hh Hpr Hgr2 Hrn2
            generalize (rotS (gT hs k) (hgA hs k).a).x = px at hr
            generalize (rotS (gT hs k) (hgA hs k).a).y = py at hr
            generalize (rotS (gT hs (k + 1)) (hgA hs k).b).x = qx at hr
            generalize (rotS (gT hs (k + 1)) (hgA hs k).b).y = qy at hr
            obtain ⟨t, ht⟩ : ∃ t, gT hs k = t := ⟨_, rfl⟩
            obtain ⟨u, hu⟩ : ∃ u, gT hs (k + 1) = u := ⟨_, rfl⟩
            obtain ⟨rx, hrx⟩ : ∃ r, (gP hs k).x = r := ⟨_, rfl⟩
            obtain ⟨ry, hry⟩ : ∃ r, (gP hs k).y = r := ⟨_, rfl⟩
            obtain ⟨sx, hsx⟩ : ∃ r, (gP hs (k + 1)).x = r := ⟨_, rfl⟩
            obtain ⟨sy, hsy⟩ : ∃ r, (gP hs (k + 1)).y = r := ⟨_, rfl⟩
            rw [hu, hsx, hsy] at Hp
            rw [hrx, hry] at K9
            rw [ht, hu, hrx, hry, hsx, hsy] at hr
            rw [ht]
            have HU := Lib.hid (And.intro hu (And.intro hsx hsy))
            clear ht hu hrx hry hsx hsy
            generalize cosT u = cc at hr Hp
            generalize sinT u = ss at hr Hp
            generalize quart (hgA hs k).ang = q at hr
            generalize (hgA hs k).ang.toNat = m at hr
            generalize hgA hs k = h at hr u0 u1 u2 u3 u4
            obtain ⟨⟨ax, ay⟩, ⟨bx, by'⟩, ang⟩ := h
            simp only at hr u0 u1 u2 u3 u4
            have hE := hr.ang
            subst hE
            have c1 := fun w' => quarters_any m w' hr.m4
            have c2 := fun w' => composeo_any t q hr.t4 hr.q4 w'
            have c3 := fun w' => turno_any ⟨ax, ay, 0⟩ t (by have := hr.t4; omega) w' (by have := hr.ha; unfold nearP; simp only; omega)
            have c4 := fun w' => turno_any ⟨bx, by', 0⟩ u (by have := hr.u4; omega) w' (by have := hr.hb; unfold nearP; simp only; omega)
            have c5 := fun w' => turno_any ⟨1, 0, 0⟩ u (by have := hr.u4; omega) w' (by unfold nearP; simp only; omega)
            rw [hr.hq] at c1
            rw [hr.tu] at c2
            rw [hr.a] at c3
            rw [hr.b] at c4
            rw [hr.o] at c5
            have w1' : IntKind.i64.wrap (rx + px) = rx + px := by rw [IntKind.wrap_i64]; have := hr.hr; have := hr.hp; omega
            have w2' : IntKind.i64.wrap (rx + px - qx) = sx := by rw [← hr.x, IntKind.wrap_i64]; have := hr.hr; have := hr.hp; have := hr.hqq; omega
            have w3' : IntKind.i64.wrap (ry + py) = ry + py := by rw [IntKind.wrap_i64]; have := hr.hr; have := hr.hp; omega
            have w4' : IntKind.i64.wrap (ry + py - qy) = sy := by rw [← hr.y, IntKind.wrap_i64]; have := hr.hr; have := hr.hp; have := hr.hqq; omega
            have w5' : IntKind.i64.wrap ((k : Int) + 1) = ((k + 1 : Nat) : Int) := by rw [IntKind.wrap_i64]; omega
            have C1 := Lib.hid c1
            have C2 := Lib.hid c2
            have C3 := Lib.hid c3
            have C4 := Lib.hid c4
            have C5 := Lib.hid c5
            clear c1 c2 c3 c4 c5 hr
            have kb : Blk (wr.alloc (.cells #[.int .i64 ax, .int .i64 ay, .int .i64 bx, .int .i64 by', .int .i64 m] 70)) wr.heap.size [.int .i64 ax, .int .i64 ay, .int .i64 bx, .int .i64 by', .int .i64 m] := Blk.new _ _
            have hx0 : Ext wr (wr.alloc (.cells #[.int .i64 ax, .int .i64 ay, .int .i64 bx, .int .i64 by', .int .i64 m] 70)) := (Ext.refl _).alloc _
            have KB := Lib.hid kb
            have HX0 := Lib.hid hx0
            have b4 := kb.at_ 4 rfl
            clear kb hx0
            go_wp2_with (first
              | (go_at_call 23; refine (C1.out _).mono ?_; rintro e w5 ⟨rfl, hx5⟩; have kb5 := KB.out.ext hx5; have b0 := kb5.at_ 0 rfl; have b1 := kb5.at_ 1 rfl; have b2 := kb5.at_ 2 rfl; have b3 := kb5.at_ 3 rfl; have HX5 := Lib.hid (HX0.out.trans hx5); clear b4 kb5 hx5 u0 u1 u2 u3 u4)
              | (go_at_call 22; refine (C2.out _).mono ?_; rintro e w6 ⟨rfl, hx6⟩; have d0 := fun w' (he : Ext w6 w') => b0 w' (hx6.trans he); have d1 := fun w' (he : Ext w6 w') => b1 w' (hx6.trans he); have d2 := fun w' (he : Ext w6 w') => b2 w' (hx6.trans he); have d3 := fun w' (he : Ext w6 w') => b3 w' (hx6.trans he); have HX6 := Lib.hid (HX5.out.trans hx6); clear b0 b1 b2 b3 hx6)
              | (go_at_call 19; have hq := HX8; clear hq; refine (C5.out _).mono ?_; rintro e w9 ⟨rfl, hx9⟩; have j16 := (Blk.new (W := w8) #[.int .i64 qx, .int .i64 qy, .int .i64 0] 60).ext hx9; have j14 := J14.out.ext (((Ext.refl w8).alloc (.cells #[.int .i64 qx, .int .i64 qy, .int .i64 0] 60)).trans hx9); have HX9 := Lib.hid ((HX8.out.alloc (.cells #[.int .i64 qx, .int .i64 qy, .int .i64 0] 60)).trans hx9); have m0 := j14.at_ 0 rfl; have m1 := j14.at_ 1 rfl; have n0 := j16.at_ 0 rfl; have n1 := j16.at_ 1 rfl; have j9 := K9.out.ext HX9.out; have r0 := j9.at_ 0 rfl; have r1 := j9.at_ 1 rfl; have r2 := j9.at_ 2 rfl; have f0 := j9.free 0; have f1 := j9.free 1; have f2 := j9.free 2; have J9 := Lib.hid j9; clear j14 j16 j9 hx9)
              | (go_at_call 19; have hq := HX7; clear hq; refine (C4.out _).mono ?_; rintro e w8 ⟨rfl, hx8⟩; have J14 := Lib.hid ((Blk.new (W := w7) #[.int .i64 px, .int .i64 py, .int .i64 0] 60).ext hx8); have HX8 := Lib.hid ((HX7.out.alloc (.cells #[.int .i64 px, .int .i64 py, .int .i64 0] 60)).trans hx8); clear e2 e3 hx8)
              | (go_at_call 19; refine (C3.out _).mono ?_; rintro e w7 ⟨rfl, hx7⟩; have e2 := fun w' (he : Ext w7 w') => d2 w' (hx7.trans he); have e3 := fun w' (he : Ext w7 w') => d3 w' (hx7.trans he); have HX7 := Lib.hid (HX6.out.trans hx7); clear d0 d1 d2 d3 hx7))
            have hgl : g9 < w9.heap.size := Nat.lt_of_lt_of_le K9.out.lt HX9.out.le
            have j9 := (((J9.out.ext ((Ext.refl w9).alloc (.cells #[.int .i64 cc, .int .i64 ss, .int .i64 0] 60))).set (j := 0) (by simp) (.int .i64 sx)).set (j := 1) (by simp) (.int .i64 sy)).set (j := 2) (by simp) (.int .i64 0)
            have j18 := (((Blk.new (W := w9) #[.int .i64 cc, .int .i64 ss, .int .i64 0] 60).other (b := g9) (k := 0) (by omega) (.int .i64 sx)).other (b := g9) (k := 1) (by omega) (.int .i64 sy)).other (b := g9) (k := 2) (by omega) (.int .i64 0)
            have hxW := ((((Hx.out.trans HX9.out).alloc (.cells #[.int .i64 cc, .int .i64 ss, .int .i64 0] 60)).setCell (p := ⟨g9, 0, none⟩) Hg9.out (.int .i64 sx)).setCell (p := ⟨g9, 1, none⟩) Hg9.out (.int .i64 sy)).setCell (p := ⟨g9, 2, none⟩) Hg9.out (.int .i64 0)
            have hb18 : w9.heap.size = w9.heap.size := rfl
            obtain ⟨g18, hg18⟩ : ∃ g18, g18 = w9.heap.size := ⟨_, rfl⟩
            rw [← hg18] at j18 ⊢
            clear hg18 hb18 hgl J9 m0 m1 n0 n1 r0 r1 r2 f0 f1 f2 HX9
            generalize ((((w9.alloc (Obj.cells #[Value.int IntKind.i64 cc, Value.int IntKind.i64 ss, Value.int IntKind.i64 0] 60)).setCell ⟨g9, 0, none⟩ (.int .i64 sx)).setCell ⟨g9, 1, none⟩ (.int .i64 sy)).setCell ⟨g9, 2, none⟩ (.int .i64 0)) = W9 at *
            have r0 := j9.at_ 0 rfl
            have r1 := j9.at_ 1 rfl
            have s0 := j18.at_ 0 rfl
            have s1 := j18.at_ 1 rfl
            have p0 := fun w' (he : Ext W9 w') => Hp.out.1 w' (hxW.trans he)
            have p1 := fun w' (he : Ext W9 w') => Hp.out.2.1 w' (hxW.trans he)
            have p2 := fun w' (he : Ext W9 w') => Hp.out.2.2.1 w' (hxW.trans he)
            have p3 := fun w' (he : Ext W9 w') => Hp.out.2.2.2.1 w' (hxW.trans he)
            have p4 := fun w' (he : Ext W9 w') => Hp.out.2.2.2.2 w' (hxW.trans he)
            have hne := neq_ps cc ss sx sy 1
            have J9 := Lib.hid j9
            have HW := Lib.hid hxW
            have hkn : (k + 1) < n + 1 := by omega
            clear j9 j18 hxW Hp
            refine Cg.wp_region_calm (p := Cg.extPre) (fr := (fun _ => false)) 15 (fun _ _ _ _ => True) (fun _ _ _ _ _ _ h => h) (by kernel_rfl) (by kernel_rfl) ?_
            simp only [List.take_succ_cons, List.take_zero, List.drop_succ_cons, List.drop_zero]
            refine Cg.calm_quiet Cg.calm_mono_final W9 (fun _ h => h) 13 (by kernel_rfl) ?_
            simp only [List.take_succ_cons, List.take_zero, List.drop_succ_cons, List.drop_zero]
            repeat (go_big_quiet_step (fail))
            refine wpQuiet_nil ?_
            refine Cg.calm_value Cg.calm_mono_final (fun v _ => v = .agg #[.int .i64 cc, .int .i64 ss, .int .i64 sx, .int .i64 sy, .int .i64 1]) (fun _ _ _ _ h => h) rfl (fun w' hR _ => ⟨_, w', by go_simp, Ext.refl _, rfl, fun hf => by cases hf⟩) ?_
            rintro _ _ _ rfl _
            simp only [Act.put, List.setIfInBounds_toArray, List.set_cons_succ, List.set_cons_zero]
            refine Cg.calm_quiet Cg.calm_mono_final W9 (fun _ h => h) 1 (by kernel_rfl) ?_
            simp only [List.take_succ_cons, List.take_zero, List.drop_succ_cons, List.drop_zero]
            repeat (go_big_quiet_step (fail))
            refine wpQuiet_nil ?_
            refine Cg.calm_nil fun w3 he3 _ => ?_
            have he3 : Ext W9 w3 := he3
            have HW3 := Lib.hid (And.intro (HW.out.trans he3) (J9.out.ext he3))
            clear he3 p0 p1 p2 p3 p4 s0 s1 r0 r1 hne
            go_wp2
            go_roundw
            case rel => exact ⟨k + 1, by omega, by go_num, by rw [HU.out.1], HW3.out.1, by rw [HU.out.2.1, HU.out.2.2]; exact HW3.out.2⟩
            case measure => simp [intOf]; omega
          · obtain rfl : n = k := by omega
            go_wp2
            go_ret
            exact ⟨rfl, H4.out.trans hex⟩
      · rw [h3] at hpw
        have Hpw := Lib.hid hpw
        clear hpw h2 h3 Hlk Hrn Hgr Hn3 Hpl Hall
        go_wp2_with (go_at_call 21; refine (Hpw.out).mono ?_; rintro e w4 ⟨v, rfl, hv⟩; obtain ⟨X, x, rfl⟩ := hv.form; have hx4 := hv.ext; have H4 := Lib.hid (H3.out.trans hx4); clear v0 v1 hx4 hv Hpw)
        go_ret
        exact ⟨rfl, H4.out⟩
end Go.Proofs.YtebkhdhhajjhfaaGreat.Lt
