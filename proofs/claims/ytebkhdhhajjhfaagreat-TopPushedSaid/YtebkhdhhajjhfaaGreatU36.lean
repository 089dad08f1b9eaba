/- pushed: a brick on its way, tick by tick. -/
import Derived.Test.YtebkhdhhajjhfaaGreatU35
namespace Go.Proofs.YtebkhdhhajjhfaaGreat.Lt
open Go Go.RowKit
set_option maxRecDepth 100000 in
set_option maxHeartbeats 8000000 in
theorem push_any (l : List Ki) (A : Option Addr) (c : Nat) (ms : List Br) (M : Option Addr) (mc : Nat) (gr : Int) (fx : List Int) (F : Option Addr) (fc : Nat) (th : List Int) (H : Option Addr) (hc : Nat) (b d ticks : Nat) (lift : List Int) (LA : Option Addr) (lc : Nat) (op st : Int) (w : World)
    (hA : KiRow w A l) (h8 : kindsW l) (hM : BrRow w M ms) (hbw : bricksW ms) (hF : Ints w F fx) (hfl : fx.length ≤ 1000000) (hg : -9223372036854775808 ≤ gr ∧ gr ≤ 9223372036854775807) (hH : Ints w H th) (hhl : th.length ≤ 1000000) (hL : Ints w LA lift) (hv : Gr.vpB lift op st = true) (ht : ticks ≤ 100) (hd : d < 6) (hgw : goodW l ms gr fx th (b : Int)) :
    Calls Tryz.prog 12 #[.slice A l.length c, .agg #[.slice M ms.length mc], .agg #[.int .i64 gr, .slice F fx.length fc], .slice H th.length hc, .int .i64 b, .int .i64 d, .agg #[.slice LA lift.length lc, .int .i64 op, .int .i64 st], .int .i64 ticks] w
      (PushRes (freeT (ms.map (celB l)) ms.length gr th b d) (∀ i, i < ms.length → (knoB l (brA ms i)).length = 0) w) := by
  have hvp : Gr.vpP lift op st := by simpa [Gr.vpB] using hv
  have hbm : b < ms.length := by have := hgw.2.2.1.2; omega
  have hcnt := chosen_count hgw.2.1 hgw.2.2.1.1 hgw.2.2.1.2 hgw.2.2.2
  have hm40 : ms.length ≤ 40 := hgw.1.1.1.2.1
  have hst1 := hvp.2.2.2.2.2.1
  have hst2 := hvp.2.2.2.2.2.2
  have Hwy := Lib.hid (fun w' (he : Ext w w') => (waysw_any l A c ms M mc gr fx F fc th H hc (b : Int) w' (hA.ext he) h8 (hM.ext he) hbw (hF.ext he) hfl hg (hH.ext he) hhl).mono (R' := fun e w'' => ∃ QA qc ds nd, e = .returned (.tuple #[.slice QA nd qc, .int .i64 0]) ∧ Ext w' w'' ∧ Hid (Ints w'' QA ds ∧ (ds.length ≤ 6 ∧ ds.length = nd) ∧ ((d : Int) ∈ ds → freeT (ms.map (celB l)) ms.length gr th b d) ∧ ((∀ i, i < ms.length → (knoB l (brA ms i)).length = 0) → freeT (ms.map (celB l)) ms.length gr th b d → (d : Int) ∈ ds))) fun e w'' ⟨QA, qc, ds, er, he1, hx, h0, hi, hl, hr⟩ => by
    obtain rfl : er = 0 := h0.2 hgw
    have hr := hr rfl
    exact ⟨QA, qc, ds, ds.length, he1, hx, Lib.hid ⟨hi, ⟨hl, rfl⟩, fun hm => by
      obtain ⟨d', h1, h2, h3⟩ := hr.1 _ hm
      obtain rfl : d = d' := by omega
      exact h3, fun z hf => hr.2 z d hd hf⟩⟩)
  have Hpl := Lib.hid (fun w' (he : Ext w w') => (Gr.places_good LA lc lift op st ticks w' (hL.ext he) (by have := hvp.2.1; omega) hv (by omega)).mono (R' := fun e w'' => ∃ PA pc, e = .returned (.tuple #[.slice PA (ticks + 1) pc, .int .i64 0]) ∧ Ext w' w'' ∧ Hid (Ints w'' PA (Gr.placesL lift op st (ticks + 1)))) fun e w'' ⟨v, he1, hO⟩ => by
    obtain ⟨PA, pc, rfl⟩ := Own.form hO
    exact ⟨PA, pc, by rw [he1, Gr.placesL_length], Own.ext hO, Lib.hid (OwnI.ints hO)⟩)
  have Hpb := Lib.hid (show ∀ k, k < ticks + 1 → 0 ≤ getI (Gr.placesL lift op st (ticks + 1)) k ∧ getI (Gr.placesL lift op st (ticks + 1)) k ≤ st from fun k hk => by
    rw [Gr.placesL_get _ _ _ _ _ hk]
    exact Gr.place_bd lift op st hst1 k)
  have hpn : (Gr.placesL lift op st (ticks + 1)).length = ticks + 1 := Gr.placesL_length _ _ _ _
  obtain ⟨⟨sx, sy, sz⟩, hsE⟩ : ∃ s, stepC d = s := ⟨_, rfl⟩
  have Hst := Lib.hid (fun w' => stepr_any d hd w')
  rw [hsE] at Hst
  have Hsn := Lib.hid (show nearP ⟨sx, sy, sz⟩ (-1) 1 from hsE ▸ stepC_near d)
  have Hfc := Lib.hid (fun r => farC_sub (brA ms b).at_ d r hsE)
  clear hsE
  have Hcel := Lib.hid (fun (hf : freeT (ms.map (celB l)) ms.length gr th b d) n (hn : n ≤ 64) (hnear : nearP (farC (brA ms b).at_ d n) (-1000) 1000) w' (he : Ext w w') => away_cells (c := c) (hA.ext he) h8 hgw hf hn hnear)
  have Hchk := Lib.hid (fun (hf : freeT (ms.map (celB l)) ms.length gr th b d) n (hn : n ≤ 64) (hnear : nearP (farC (brA ms b).at_ d n) (-1000) 1000) w' (he : Ext w w') M' mc' (hM' : Row w' M' (nowX ms th th.length ++ (awayB (brA ms b) d n).cells)) => away_check (c := c) (mc := mc') (hA.ext he) h8 hbw hgw hf hn hnear hM')
  have Hbr := Lib.hid (fun q (hq : q < ms.length) => hM.at_ hq)
  have Hth := Lib.hid (show ∀ j, j < th.length → ∃ q : Nat, getI th j = (q : Int) ∧ q < ms.length from fun j hj => by
    have := (hgw.2.1 j hj).1
    exact ⟨(getI th j).toNat, by omega, by omega⟩)
  have Hti := Lib.hid (fun (hn : 0 < th.length) => hH.some_ hn)
  have Hnx := Lib.hid (fun j q (hj : j < th.length) hq => nowX_step (ms := ms) (th := th) (j := j) (q := q) hj hq)
  have hnx0 := nowX_zero ms th
  have Hbn := Lib.hid (show nearP (brA ms b).at_ (-1000) 1000 from (hgw.1.1.1.2.2 b hbm).near)
  clear hA h8 hM hbw hF hfl hg hH hhl hL hv hvp hgw
  generalize freeT (ms.map (celB l)) ms.length gr th b d = FT at *
  generalize (∀ i, i < ms.length → (knoB l (brA ms i)).length = 0) = NK at *
  generalize nowX ms th = nx at *
  generalize Gr.placesL lift op st (ticks + 1) = PL at *
  obtain ⟨m, hm⟩ : ∃ m, m = ms.length := ⟨_, rfl⟩
  obtain ⟨tn, htn⟩ : ∃ tn, tn = th.length := ⟨_, rfl⟩
  obtain ⟨n, hn⟩ : ∃ n, n = l.length := ⟨_, rfl⟩
  obtain ⟨f, hf⟩ : ∃ f, f = fx.length := ⟨_, rfl⟩
  obtain ⟨ln, hln⟩ : ∃ ln, ln = lift.length := ⟨_, rfl⟩
  simp only [← hm, ← htn, ← hn, ← hf, ← hln] at Hwy Hpl Hcel Hchk Hbr Hth Hti Hnx hbm hcnt hm40 ⊢
  clear hm htn hn hf hln
  obtain ⟨N, hN⟩ : ∃ N, N = ticks + 1 := ⟨_, rfl⟩
  rw [← hN] at Hpb hpn Hpl
  have hN1 : N ≤ 101 := by omega
  clear hN
  have k1 : Blk (((w.alloc (.cells #[.slice M m mc] 25)).alloc (.cells #[.int .i64 gr, .slice F f fc] 28)).alloc (.cells #[.slice LA ln lc, .int .i64 op, .int .i64 st] 30)) w.heap.size [.slice M m mc] := ((Blk.new _ _).ext ((Ext.refl _).alloc _)).ext ((Ext.refl _).alloc _)
  have k2 : Blk (((w.alloc (.cells #[.slice M m mc] 25)).alloc (.cells #[.int .i64 gr, .slice F f fc] 28)).alloc (.cells #[.slice LA ln lc, .int .i64 op, .int .i64 st] 30)) (w.heap.size + 1) [.int .i64 gr, .slice F f fc] := (Blk.new' (by simp)).ext ((Ext.refl _).alloc _)
  have k3 : Blk (((w.alloc (.cells #[.slice M m mc] 25)).alloc (.cells #[.int .i64 gr, .slice F f fc] 28)).alloc (.cells #[.slice LA ln lc, .int .i64 op, .int .i64 st] 30)) (w.heap.size + 1 + 1) [.slice LA ln lc, .int .i64 op, .int .i64 st] := Blk.new' (by simp)
  have hx1 : Ext w (((w.alloc (.cells #[.slice M m mc] 25)).alloc (.cells #[.int .i64 gr, .slice F f fc] 28)).alloc (.cells #[.slice LA ln lc, .int .i64 op, .int .i64 st] 30)) := (((Ext.refl w).alloc _).alloc _).alloc _
  have z0 := k1.at_ 0 rfl
  have y0 := k2.at_ 0 rfl
  have y1 := k2.at_ 1 rfl
  have p0 := k3.at_ 0 rfl
  have p1 := k3.at_ 1 rfl
  have p2 := k3.at_ 2 rfl
  have Hx1 := Lib.hid hx1
  clear k1 k2 k3 hx1
  go_enter Tryz.func12, Tryz.ntmps12
  go_upto_region 1 with (fail)
  generalize (((w.alloc (.cells #[.slice M m mc] 25)).alloc (.cells #[.int .i64 gr, .slice F f fc] 28)).alloc (.cells #[.slice LA ln lc, .int .i64 op, .int .i64 st] 30)) = w1 at *
  obtain ⟨b0, hb0⟩ : ∃ b0, b0 = w.heap.size := ⟨_, rfl⟩
  rw [← hb0] at z0 y0 y1 p0 p1 p2 ⊢
  generalize b0 + 1 + 1 = b2 at *
  generalize b0 + 1 = b1 at *
  clear hb0
  go_wp2_with (first
    | (go_at_call 10; refine (Hwy.out _ Hx1.out).mono ?_; rintro e w2 ⟨QA, qc, ds, nd, rfl, he2, Hds⟩; have z0' := fun w' he => z0 w' (he2.trans he); have y0' := fun w' he => y0 w' (he2.trans he); have p0' := fun w' he => p0 w' (he2.trans he); have p1' := fun w' he => p1 w' (he2.trans he); have p2' := fun w' he => p2 w' (he2.trans he); have Hx2 := Lib.hid (Hx1.out.trans he2); clear he2 z0 y0 y1 p0 p1 p2)
    | (go_at_call 33; refine (Hpl.out _ Hx2.out).mono ?_; rintro e w3 ⟨PA, pc, rfl, he3, Hi3⟩; have z0 := fun w' he => z0' w' (he3.trans he); have y0 := fun w' he => y0' w' (he3.trans he); have p2 := fun w' he => p2' w' (he3.trans he); have Hx3 := Lib.hid (Hx2.out.trans he3); have Hds3 := Lib.hid (Hds.out.1.ext he3); clear he3 z0' y0' p0' p1' p2'))
  obtain ⟨hnd6, hndE⟩ := Hds.out.2.1
  have HF1 := Lib.hid Hds.out.2.2.1
  have HF2 := Lib.hid Hds.out.2.2.2
  have Hdi := Lib.hid (fun (hn : 0 < ds.length) => Hds3.out.some_ hn)
  clear Hds Hds3 Hwy Hpl
  go_loopw [57, 21] (fun i v wr => ∃ (k : Nat) (fb : Bool), k ≤ nd ∧ i = .int .i64 k ∧ v = .bool fb ∧ Ext w3 wr ∧ Hid (fb = true ↔ ∃ j, j < k ∧ getI ds j = (d : Int))) (fun i _ _ => nd - (intOf i).toNat)
  case atStart => exact ⟨0, false, by omega, rfl, rfl, Ext.refl _, Lib.hid ⟨fun h => (by cases h), fun ⟨j, h, _⟩ => by omega⟩⟩
  case round =>
    obtain ⟨k, fb, hk, rfl, rfl, hex, Hfb⟩ := hrel
    by_cases hlt : k < nd
    · have hki : (k : Int) < (nd : Int) := by omega
      have hw1 : IntKind.i64.wrap ((k : Int) + 1) = ((k + 1 : Nat) : Int) := by rw [IntKind.wrap_i64]; omega
      obtain ⟨ad, rfl, hc9⟩ := Hdi.out (by omega)
      have c0 := fun w' he => hc9 k (by omega) w' (hex.trans he)
      have Hst1 := Lib.hid (show ∀ fb' : Bool, (fb' = true ↔ (fb = true ∨ getI ds k = (d : Int))) → (fb' = true ↔ ∃ j, j < k + 1 ∧ getI ds j = (d : Int)) from fun fb' h => by
        rw [h, Hfb.out]
        constructor
        · rintro (⟨j, h1, h2⟩ | h1)
          · exact ⟨j, by omega, h2⟩
          · exact ⟨k, by omega, h1⟩
        · rintro ⟨j, h1, h2⟩
          by_cases e : j = k
          · exact .inr (by rw [← e]; exact h2)
          · exact .inl ⟨j, by omega, h2⟩)
      clear hc9 Hdi HF1 HF2 Hfb Hcel Hchk Hbr Hth Hti Hnx Hst Hpb z0 y0 p2
      generalize getI ds k = x at *
      cases fb with
      | true =>
        go_wp2
        go_roundw
        case rel => exact ⟨k + 1, true, by omega, by go_num, rfl, hex, Lib.hid (Hst1.out true (by simp))⟩
        case measure => simp [intOf]; omega
      | false =>
        cases hxd : (x == (d : Int)) with
        | true =>
          have HE := Lib.hid (show x = (d : Int) by simpa using hxd)
          go_wp2
          go_roundw
          case rel => exact ⟨k + 1, true, by omega, by go_num, rfl, hex, Lib.hid (Hst1.out true (by simp [HE.out]))⟩
          case measure => simp [intOf]; omega
        | false =>
          have HE := Lib.hid (show ¬ x = (d : Int) by simpa using hxd)
          go_wp2
          go_roundw
          case rel => exact ⟨k + 1, false, by omega, by go_num, rfl, hex, Lib.hid (Hst1.out false (by simp [HE.out]))⟩
          case measure => simp [intOf]; omega
    · obtain rfl : nd = k := by omega
      cases fb with
      | false =>
        have Hend := Lib.hid (show NK → FT → False from fun z p => by
          obtain ⟨j, hj, e⟩ := List.getElem_of_mem (HF2.out z p)
          have := Hfb.out.2 ⟨j, by omega, by simp [getI, hj, e]⟩
          cases this)
        clear Hdi HF1 HF2 Hfb Hcel Hchk Hbr Hth Hti Hnx Hst Hpb z0 y0 p2
        go_wp2
        go_ret
        exact PushRes.no (Hx3.out.trans hex) Hend.out
      | true =>
      have HFT := Lib.hid (show FT from by
        obtain ⟨j, hj, e⟩ := Hfb.out.1 rfl
        refine HF1.out ?_
        rw [← e]
        have hj2 : j < ds.length := by omega
        simp only [getI, List.getElem?_eq_getElem hj2, Option.getD_some]
        exact List.getElem_mem _)
      have Hpi := Lib.hid (fun (hn : 0 < PL.length) => Hi3.out.some_ hn)
      have z1 := fun w' he => z0 w' (hex.trans he)
      have y1 := fun w' he => y0 w' (hex.trans he)
      have p3 := fun w' he => p2 w' (hex.trans he)
      have Hxr := Lib.hid (Hx3.out.trans hex)
      have Hex := Lib.hid hex
      clear Hdi HF1 HF2 Hfb z0 y0 p2 hex Hi3
      go_wp2_with (go_at_call 34; refine (Hst.out _).mono ?_; rintro e w4 ⟨rfl, he4⟩; have hx5 := he4.trans ((Ext.refl w4).alloc (.cells #[.int .i64 sx, .int .i64 sy, .int .i64 sz] 60)); have z0 := fun w' he => z1 w' (hx5.trans he); have y0 := fun w' he => y1 w' (hx5.trans he); have p2 := fun w' he => p3 w' (hx5.trans he); have Hx5 := Lib.hid hx5; clear he4 hx5 z1 y1 p3)
      obtain ⟨g24, hg24⟩ : ∃ g, g = w4.heap.size := ⟨_, rfl⟩
      have hk5 : Blk (w4.alloc (.cells #[.int .i64 sx, .int .i64 sy, .int .i64 sz] 60)) w4.heap.size [.int .i64 sx, .int .i64 sy, .int .i64 sz] := Blk.new _ _
      rw [← hg24] at hk5 ⊢
      generalize (w4.alloc (.cells #[.int .i64 sx, .int .i64 sy, .int .i64 sz] 60)) = w5 at *
      have HK5 := Lib.hid hk5
      have Z0 := Lib.hid z0
      have Y0 := Lib.hid y0
      have P2 := Lib.hid p2
      have Hxw5 := Lib.hid (Hxr.out.trans Hx5.out)
      have Hx35 := Lib.hid (Hex.out.trans Hx5.out)
      clear hk5 hg24 z0 y0 p2 Hst Hxr Hex Hx5
      go_loopw [74] (fun i wr => ∃ k : Nat, k ≤ N ∧ i = .int .i64 k ∧ Ext w5 wr) (fun i _ => N - (intOf i).toNat)
      case atStart => exact ⟨0, by omega, rfl, Ext.refl _⟩
      case round =>
        obtain ⟨wo, rfl⟩ : ∃ wo : World, wo = wr := ⟨_, rfl⟩
        obtain ⟨k, hk, rfl, hx⟩ := hrel
        by_cases hlt : k < N
        · have hki : (k : Int) < (N : Int) := by omega
          have hw1 : IntKind.i64.wrap ((k : Int) + 1) = ((k + 1 : Nat) : Int) := by rw [IntKind.wrap_i64]; omega
          obtain ⟨ap, rfl, hpc⟩ := Hpi.out (by omega)
          have c0 := fun w' he => hpc k (by omega) w' ((Hx35.out.trans hx).trans he)
          obtain ⟨ha0, ha1⟩ := Hpb.out k hlt
          clear hpc Hpi Hpb
          generalize getI PL k = a at *
          have Hxo := Lib.hid (Hxw5.out.trans hx)
          have Hx := Lib.hid hx
          have hO6 : Own wo (wo.alloc (.cells #[.slice none 0 0] 25)) 85 6 (.slice none 0 0) 0 (nx 0) := by
            rw [hnx0]
            exact Own.nil' ((Ext.refl _).alloc _) _ _
          have hW6 : Whole (wo.alloc (.cells #[.slice none 0 0] 25)) wo.heap.size #[.slice none 0 0] 25 := Whole.new rfl
          have HO6 := Lib.hid hO6
          have HW6 := Lib.hid hW6
          clear hO6 hW6 hx
          go_wp2
          obtain ⟨gn, hgn⟩ : ∃ g, g = wo.heap.size := ⟨_, rfl⟩
          rw [← hgn] at HW6 ⊢
          have HG := Lib.hid (show wo.heap.size ≤ gn by omega)
          generalize (wo.alloc (.cells #[.slice none 0 0] 25)) = w6 at *
          clear hgn c0
          go_loopw [80] (fun i wr => ∃ (j : Nat) (v : Value), j ≤ tn ∧ i = .int .i64 j ∧ Own wo wr 85 6 v j (nx j) ∧ Whole wr gn #[v] 25) (fun i _ => tn - (intOf i).toNat)
          case atStart => exact ⟨0, _, by omega, rfl, HO6.out, HW6.out⟩
          case round =>
            clear HO6 HW6
            obtain ⟨j, v, hj, rfl, hO, hW⟩ := hrel
            by_cases hlt3 : j < tn
            · obtain ⟨q, hq, hqm⟩ := Hth.out j hlt3
              obtain ⟨ah, rfl, hti⟩ := Hti.out (by omega)
              have hEx := Hxo.out.trans hO.ext
              have t0 := fun w' he => hti j hlt3 w' (hEx.trans he)
              simp only [hq] at t0
              obtain ⟨am, rfl, x0, x1, x2, x3, x4, x5⟩ := Hbr.out q hqm
              have u0 := fun w' he => x0 w' (hEx.trans he)
              have u1 := fun w' he => x1 w' (hEx.trans he)
              have u2 := fun w' he => x2 w' (hEx.trans he)
              have u3 := fun w' he => x3 w' (hEx.trans he)
              have u4 := fun w' he => x4 w' (hEx.trans he)
              have u5 := fun w' he => x5 w' (hEx.trans he)
              have m0 := fun w' he => Z0.out w' ((Hx.out.trans hO.ext).trans he)
              have hns := Hnx.out j q hlt3 hq
              obtain ⟨⟨kd, ⟨ox, oy, oz⟩, tr, co⟩, hbE⟩ : ∃ x, brA ms q = x := ⟨_, rfl⟩
              rw [hbE] at u0 u1 u2 u3 u4 u5 hns
              simp only at u0 u1 u2 u3 u4 u5
              have hji : (j : Int) < (tn : Int) := by omega
              have hqi : (q : Int) < (m : Int) := by omega
              have hwj : IntKind.i64.wrap ((j : Int) + 1) = ((j + 1 : Nat) : Int) := by rw [IntKind.wrap_i64]; omega
              have hD : Ext wr { wr with drawn := wr.drawn + 1 } := (Ext.refl wr).drawn _
              obtain ⟨wD, hwD⟩ : ∃ wD, wD = ({ wr with drawn := wr.drawn + 1 } : World) := ⟨_, rfl⟩
              rw [← hwD] at hD
              obtain ⟨v9, w9, hrun, hO9, hg9⟩ := app_brick (hO.later hD) ⟨kd, ⟨ox, oy, oz⟩, tr, co⟩ (by omega)
              rw [hns] at hO9
              obtain ⟨X9, c9, rfl⟩ := hO9.form
              have hWD : Whole wD gn #[v] 25 := hW.ext hD
              have hWA : Whole (wD.alloc (.cells #[.int .i64 kd, .int .i64 ox, .int .i64 oy, .int .i64 oz, .int .u8 tr, .int .u8 co] 85)) gn #[v] 25 := hWD.ext ((Ext.refl _).alloc _)
              have hne : v.ownBlock ≠ some gn := hO.ne_whole hW (by decide)
              have hW9 : Whole w9 gn #[v] 25 := hWA.grown hg9 (fun e => hne e.symm)
              have HR := Lib.hid (show Own wo (w9.setCell ⟨gn, 0, none⟩ (.slice X9 (j + 1) c9)) 85 6 (.slice X9 (j + 1) c9) (j + 1) (nx (j + 1)) ∧ Whole (w9.setCell ⟨gn, 0, none⟩ (.slice X9 (j + 1) c9)) gn #[.slice X9 (j + 1) c9] 25 from ⟨hO9.other HG.out (hO9.ne_whole hW9 (by decide)) _, hW9.setCell 0 _⟩)
              have HD := Lib.hid hD
              have HWD := Lib.hid (show wD.cell? ⟨gn, 0, none⟩ = some v from hWD.cell 0 (by rfl))
              have HWA := Lib.hid (show (wD.alloc (.cells #[.int .i64 kd, .int .i64 ox, .int .i64 oy, .int .i64 oz, .int .u8 tr, .int .u8 co] 85)).cell? ⟨gn, 0, none⟩ = some v from hWA.cell 0 (by rfl))
              have HW9 := Lib.hid (show w9.cell? ⟨gn, 0, none⟩ = some v from hW9.cell 0 (by rfl))
              have HF9 := Lib.hid (hW9.free 0)
              have hrun' : (Builtin.append_ #[23, 23] 23 #[v, .slice (some ⟨wD.heap.size, 0, none⟩) 1 1]).run Tryz.prog (wD.alloc (.cells #[.int .i64 kd, .int .i64 ox, .int .i64 oy, .int .i64 oz, .int .u8 tr, .int .u8 co] 85)) = .ok (.slice X9 (j + 1) c9) w9 := hrun
              have Hrun := Lib.hid hrun'
              have HwD := Lib.hid hwD
              clear hwD hO hW hO9 hWD hWA hne hW9 hg9 hns hbE x0 x1 x2 x3 x4 x5 hti hD hrun hrun' hEx hq hqm
              clear Hth Hti Hbr Hnx
              go_wp2
              refine DetR.wp_region_each (fun jj => ([(.pointer (some ⟨gn, 0, none⟩)), v, (.pointer (some ⟨b0, 0, none⟩)), (.slice (some am) m mc), (.int .i64 (q : Int)), (.pointer (some (am.add (q * 6)))), (.agg #[.int .i64 kd, .int .i64 ox, .int .i64 oy, .int .i64 oz, .int .u8 tr, .int .u8 co]), (.slice (some ⟨wD.heap.size, 0, none⟩) 1 1), (.slice X9 (j + 1) c9), (.pointer (some ⟨gn, 0, none⟩)), undef] : List Value).getD jj undef) (AWd wD (wD.alloc (.cells #[.int .i64 kd, .int .i64 ox, .int .i64 oy, .int .i64 oz, .int .u8 tr, .int .u8 co] 85)) w9 (w9.setCell ⟨gn, 0, none⟩ (.slice X9 (j + 1) c9))) (by kernel_rfl) (by kernel_rfl) ?_ ?_ ?_
              · exact ⟨fun _ => HwD.out.symm, fun h => (by cases h), fun h => (by cases h), fun h => (by cases h)⟩
              · refine ⟨?_, ?_, ?_, ?_, ?_, ?_, ?_, ?_, ?_, ?_, ?_, trivial⟩
                · intro L a w hi hcl hdep hat hw
                  have e27 : a.tmps[27]?.getD undef = (.pointer (some ⟨gn, 0, none⟩)) := hat.old (k := 27) (by kernel_rfl)
                  unfold DetR.okStep
                  go_simp
                  exact AWd.same (i := 0) hw (by decide) (by decide) (by decide)
                · intro L a w hi hcl hdep hat hw
                  have e84 : a.tmps[84]?.getD undef = (.pointer (some ⟨gn, 0, none⟩)) := hat.slot (i := 1) (j := 0) (k := 84) rfl rfl rfl hdep (by kernel_rfl)
                  have h8 : L 8 = false := DetR.not_yet hcl 11 8 1 (by kernel_rfl) hi
                  have c1 : w.cell? ⟨gn, 0, none⟩ = some v := by
                    cases h : L 7 with
                    | false => rw [hw.1 h]; exact HWD.out
                    | true => rw [hw.2.1 h h8]; exact HWA.out
                  unfold DetR.okStep
                  go_simp
                  exact AWd.same (i := 1) hw (by decide) (by decide) (by decide)
                · intro L a w hi hcl hdep hat hw
                  have e9 : a.tmps[9]?.getD undef = (.pointer (some ⟨b0, 0, none⟩)) := hat.old (k := 9) (by kernel_rfl)
                  unfold DetR.okStep
                  go_simp
                  exact AWd.same (i := 2) hw (by decide) (by decide) (by decide)
                · intro L a w hi hcl hdep hat hw
                  have e86 : a.tmps[86]?.getD undef = (.pointer (some ⟨b0, 0, none⟩)) := hat.slot (i := 3) (j := 2) (k := 86) rfl rfl rfl hdep (by kernel_rfl)
                  have h7 : L 7 = false := DetR.not_yet hcl 11 7 3 (by kernel_rfl) hi
                  have hx : Ext wr w := by rw [hw.1 h7]; exact HD.out
                  unfold DetR.okStep
                  go_simp
                  exact AWd.same (i := 3) hw (by decide) (by decide) (by decide)
                · intro L a w hi hcl hdep hat hw
                  have e29 : a.tmps[29]?.getD undef = (.int .i64 (q : Int)) := hat.old (k := 29) (by kernel_rfl)
                  unfold DetR.okStep
                  go_simp
                  exact AWd.same (i := 4) hw (by decide) (by decide) (by decide)
                · intro L a w hi hcl hdep hat hw
                  have e87 : a.tmps[87]?.getD undef = (.slice (some am) m mc) := hat.slot (i := 5) (j := 3) (k := 87) rfl rfl rfl hdep (by kernel_rfl)
                  have e88 : a.tmps[88]?.getD undef = (.int .i64 (q : Int)) := hat.slot (i := 5) (j := 4) (k := 88) rfl rfl rfl hdep (by kernel_rfl)
                  unfold DetR.okStep
                  go_simp
                  exact AWd.same (i := 5) hw (by decide) (by decide) (by decide)
                · intro L a w hi hcl hdep hat hw
                  have e89 : a.tmps[89]?.getD undef = (.pointer (some (am.add (q * 6)))) := hat.slot (i := 6) (j := 5) (k := 89) rfl rfl rfl hdep (by kernel_rfl)
                  have h7 : L 7 = false := DetR.not_yet hcl 11 7 6 (by kernel_rfl) hi
                  have hx : Ext wr w := by rw [hw.1 h7]; exact HD.out
                  unfold DetR.okStep
                  go_simp
                  exact AWd.same (i := 6) hw (by decide) (by decide) (by decide)
                · intro L a w hi hcl hdep hat hw
                  have e90 : a.tmps[90]?.getD undef = (.agg #[.int .i64 kd, .int .i64 ox, .int .i64 oy, .int .i64 oz, .int .u8 tr, .int .u8 co]) := hat.slot (i := 7) (j := 6) (k := 90) rfl rfl rfl hdep (by kernel_rfl)
                  have h8 : L 8 = false := DetR.not_yet hcl 11 8 7 (by kernel_rfl) hi
                  have h10 : L 10 = false := DetR.not_yet hcl 11 10 7 (by kernel_rfl) hi
                  have hww := hw.1 hi
                  subst hww
                  unfold DetR.okStep
                  go_simp
                  exact AWd.a h8 h10
                · intro L a w hi hcl hdep hat hw
                  have e85 : a.tmps[85]?.getD undef = v := hat.slot (i := 8) (j := 1) (k := 85) rfl rfl rfl hdep (by kernel_rfl)
                  have e91 : a.tmps[91]?.getD undef = (.slice (some ⟨wD.heap.size, 0, none⟩) 1 1) := hat.slot (i := 8) (j := 7) (k := 91) rfl rfl rfl hdep (by kernel_rfl)
                  have h7 : L 7 = true := dep_on hdep 7 (by kernel_rfl)
                  have h10 : L 10 = false := DetR.not_yet hcl 11 10 8 (by kernel_rfl) hi
                  have hww := hw.2.1 h7 hi
                  subst hww
                  refine okStep_append (.tmp 85) (.tmp 91) 23 rfl (eval_tmp e85) (eval_tmp e91) Hrun.out (AWd.b h7 h10)
                · intro L a w hi hcl hdep hat hw
                  have e27 : a.tmps[27]?.getD undef = (.pointer (some ⟨gn, 0, none⟩)) := hat.old (k := 27) (by kernel_rfl)
                  unfold DetR.okStep
                  go_simp
                  exact AWd.same (i := 9) hw (by decide) (by decide) (by decide)
                · intro L a w hi hcl hdep hat hw
                  have e92 : a.tmps[92]?.getD undef = (.slice X9 (j + 1) c9) := hat.slot (i := 10) (j := 8) (k := 92) rfl rfl rfl hdep (by kernel_rfl)
                  have e93 : a.tmps[93]?.getD undef = (.pointer (some ⟨gn, 0, none⟩)) := hat.slot (i := 10) (j := 9) (k := 93) rfl rfl rfl hdep (by kernel_rfl)
                  have h8 : L 8 = true := dep_on hdep 8 (by kernel_rfl)
                  have h7 : L 7 = true := DetR.closed_dep hcl 11 8 7 (by kernel_rfl) h8
                  have hww := hw.2.2.1 h8 hi
                  subst hww
                  have c1 := HW9.out
                  have f1 := HF9.out
                  unfold DetR.okStep
                  go_simp
                  exact AWd.c h7 h8
              · intro L w10 hL hw10
                have hww := hw10.2.2.2 (hL 10 (by decide))
                subst hww
                clear hw10
                simp only [DetR.puts, Act.put, List.setIfInBounds_toArray, List.set_cons_succ, List.set_cons_zero, List.getD_cons_zero, List.getD_cons_succ]
                go_wp2
                go_roundw
                case rel => exact ⟨j + 1, _, by omega, by go_num, HR.out.1, HR.out.2⟩
                case measure => simp [intOf]; omega
            · obtain rfl : tn = j := by omega
              obtain ⟨VA, vc, rfl⟩ := hO.form
              obtain ⟨r, hrE⟩ : ∃ r : Nat, st - a = (r : Int) := ⟨(st - a).toNat, by omega⟩
              have hr20 : r ≤ 20 := by omega
              obtain ⟨am, rfl, x0, x1, x2, x3, x4, x5⟩ := Hbr.out b hbm
              have hEx := Hxo.out.trans hO.ext
              have hEy := Hx.out.trans hO.ext
              have u0 := fun w' he => x0 w' (hEx.trans he)
              have u1 := fun w' he => x1 w' (hEx.trans he)
              have u2 := fun w' he => x2 w' (hEx.trans he)
              have u3 := fun w' he => x3 w' (hEx.trans he)
              have u4 := fun w' he => x4 w' (hEx.trans he)
              have u5 := fun w' he => x5 w' (hEx.trans he)
              have m0 := fun w' he => Z0.out w' (hEy.trans he)
              have p2 := fun w' he => P2.out w' (hEy.trans he)
              have hcel := Hcel.out HFT.out r (by omega)
              have hchk := Hchk.out HFT.out r (by omega)
              have hfr := Hfc.out r
              have hbn := Hbn.out
              obtain ⟨⟨kd, ⟨ox, oy, oz⟩, tr, co⟩, hbE⟩ : ∃ x, brA ms b = x := ⟨_, rfl⟩
              rw [hbE] at u0 u1 u2 u3 u4 u5 hfr hcel hchk hbn
              simp only at u0 u1 u2 u3 u4 u5 hfr hbn
              obtain ⟨⟨sa, sb⟩, ⟨sc, sd⟩, se, sf⟩ := Hsn.out
              simp only at sa sb sc sd se sf
              have hmx := mul_small (s := sx) hr20 sa sb
              have hmy := mul_small (s := sy) hr20 sc sd
              have hmz := mul_small (s := sz) hr20 se sf
              obtain ⟨⟨o1, o2⟩, ⟨o3, o4⟩, o5, o6⟩ := hbn
              simp only at o1 o2 o3 o4 o5 o6
              have e0 : IntKind.i64.wrap (st - a) = (r : Int) := by rw [IntKind.wrap_i64]; omega
              have e1 : IntKind.i64.wrap ((r : Int) * sx) = (r : Int) * sx := by rw [IntKind.wrap_i64]; omega
              have e2 : IntKind.i64.wrap ((r : Int) * sy) = (r : Int) * sy := by rw [IntKind.wrap_i64]; omega
              have e3 : IntKind.i64.wrap ((r : Int) * sz) = (r : Int) * sz := by rw [IntKind.wrap_i64]; omega
              obtain ⟨X, hX⟩ : ∃ X, X = ox - (r : Int) * sx := ⟨_, rfl⟩
              obtain ⟨Y, hY⟩ : ∃ Y, Y = oy - (r : Int) * sy := ⟨_, rfl⟩
              obtain ⟨Z, hZ⟩ : ∃ Z, Z = oz - (r : Int) * sz := ⟨_, rfl⟩
              have e4 : IntKind.i64.wrap (ox - (r : Int) * sx) = X := by rw [IntKind.wrap_i64]; omega
              have e5 : IntKind.i64.wrap (oy - (r : Int) * sy) = Y := by rw [IntKind.wrap_i64]; omega
              have e6 : IntKind.i64.wrap (oz - (r : Int) * sz) = Z := by rw [IntKind.wrap_i64]; omega
              rw [← hX, ← hY, ← hZ] at hfr
              have haw : awayB ⟨kd, ⟨ox, oy, oz⟩, tr, co⟩ d r = ⟨kd, ⟨X, Y, Z⟩, tr, co⟩ := by
                unfold awayB
                rw [hfr]
              rw [haw] at hcel hchk
              rw [hfr] at hcel hchk
              have hnr := fun w' => near01_any X Y Z (-1000) 1000 w'
              have Hcl := Lib.hid hcel
              have Hck := Lib.hid hchk
              have HEx := Lib.hid hEx
              have HEy := Lib.hid hEy
              have HO := Lib.hid hO
              have HW := Lib.hid hW
              have hB7 : Own wr (wr.alloc (.cells #[.int .i64 kd, .int .i64 ox, .int .i64 oy, .int .i64 oz, .int .u8 tr, .int .u8 co] 85)) 85 6 (.slice (some ⟨wr.heap.size, 0, none⟩) 1 1) 1 [.int .i64 kd, .int .i64 ox, .int .i64 oy, .int .i64 oz, .int .u8 tr, .int .u8 co] := Own.lit (Ext.refl wr) #[.int .i64 kd, .int .i64 ox, .int .i64 oy, .int .i64 oz, .int .u8 tr, .int .u8 co] 1 (by unfold maxLen; omega) rfl
              have HB7 := Lib.hid hB7
              clear hcel hchk hfr hbE haw hX hY hZ x0 x1 x2 x3 x4 x5 hEx hEy sa sb sc sd se sf hmx hmy hmz o1 o2 o3 o4 o5 o6 hO hW hB7 hrE ha0 ha1
              clear Hcel Hchk Hfc Hbn Hbr Hth Hti Hnx hnx0 Hsn
              go_upto_region 25 with (fail)
              obtain ⟨g30, hg30⟩ : ∃ g, g = wr.heap.size := ⟨_, rfl⟩
              rw [← hg30] at HB7 ⊢
              generalize (wr.alloc (.cells #[.int .i64 kd, .int .i64 ox, .int .i64 oy, .int .i64 oz, .int .u8 tr, .int .u8 co] 85)) = w7 at *
              have c0 := HB7.out.cell (j := 0) (by simp)
              have c1 := HB7.out.cell (j := 1) (by simp)
              have c2 := HB7.out.cell (j := 2) (by simp)
              have c3 := HB7.out.cell (j := 3) (by simp)
              simp only [List.getElem?_cons_succ, List.getElem?_cons_zero] at c0 c1 c2 c3
              have f1 := HB7.out.free 1
              have f2 := HB7.out.free 2
              have f3 := HB7.out.free 3
              have s0 := fun w' he => (HK5.out.at_ 0 rfl) w' ((HEy.out.trans HB7.out.ext).trans he)
              have s1 := fun w' he => (HK5.out.at_ 1 rfl) w' ((HEy.out.trans HB7.out.ext).trans he)
              have s2 := fun w' he => (HK5.out.at_ 2 rfl) w' ((HEy.out.trans HB7.out.ext).trans he)
              have HB8 := Lib.hid (((HB7.out.store 1 (.int .i64 X)).store 2 (.int .i64 Y)).store 3 (.int .i64 Z))
              have HG30 := Lib.hid hg30
              clear hg30 m0 p2 u0 u1 u2 u3 u4 u5
              clear HB7
              go_upto_region 26 with (fail)
              obtain ⟨w8, hw8⟩ : ∃ w8, w8 = (((w7.setCell ⟨g30, 1, none⟩ (.int .i64 X)).setCell ⟨g30, 2, none⟩ (.int .i64 Y)).setCell ⟨g30, 3, none⟩ (.int .i64 Z)) := ⟨_, rfl⟩
              rw [← hw8] at HB8 ⊢
              simp only [List.set_cons_succ, List.set_cons_zero] at HB8
              clear hw8 c0 c1 c2 c3 f1 f2 f3 s0 s1 s2 e0 e1 e2 e3 e4 e5 e6
              have c0 := HB8.out.cell (j := 0) (by simp)
              have c1 := HB8.out.cell (j := 1) (by simp)
              have c2 := HB8.out.cell (j := 2) (by simp)
              have c3 := HB8.out.cell (j := 3) (by simp)
              have c4 := HB8.out.cell (j := 4) (by simp)
              have c5 := HB8.out.cell (j := 5) (by simp)
              simp only [List.getElem?_cons_succ, List.getElem?_cons_zero] at c0 c1 c2 c3 c4 c5
              have q0 := fun w' (he : Ext w8 w') => he.cell c0
              have q1 := fun w' (he : Ext w8 w') => he.cell c1
              have q2 := fun w' (he : Ext w8 w') => he.cell c2
              have q3 := fun w' (he : Ext w8 w') => he.cell c3
              have q4 := fun w' (he : Ext w8 w') => he.cell c4
              have q5 := fun w' (he : Ext w8 w') => he.cell c5
              have HW8 := Lib.hid (HW.out.ext HB8.out.ext)
              have HO8 := Lib.hid (HO.out.later HB8.out.ext)
              have HGL := Lib.hid (show gn < g30 by rw [HG30.out]; exact HW.out.blk.lt)
              have HVL := Lib.hid (show ∀ g, (Value.slice VA tn vc).ownBlock = some g → g < g30 from fun g hg => by rw [HG30.out]; exact (HO.out.lt hg).2)
              have HE8 := Lib.hid (HEx.out.trans HB8.out.ext)
              clear c0 c1 c2 c3 c4 c5 HO HW HEx HEy HG30
              by_cases hnear : nearP ⟨X, Y, Z⟩ (-1000) 1000
              · have hcl := Hcl.out hnear
                have hck := Hck.out hnear
                rw [show nearB ⟨X, Y, Z⟩ (-1000) 1000 = true from decide_eq_true hnear] at hnr
                have Hnr := Lib.hid hnr
                have Hcl2 := Lib.hid hcl
                have Hck2 := Lib.hid hck
                clear hnr hcl hck hnear Hcl Hck
                go_upto_region 28 with (first
                  | (go_at_call 35; refine (Hnr.out _).mono ?_; rintro e w9 ⟨rfl, he9⟩; have n0 := fun w' (he : Ext w9 w') => he.cell ((HW8.out.ext he9).cell 0 rfl); have r0 := fun w' he => q0 w' (he9.trans he); have r1 := fun w' he => q1 w' (he9.trans he); have r2 := fun w' he => q2 w' (he9.trans he); have r3 := fun w' he => q3 w' (he9.trans he); have r4 := fun w' he => q4 w' (he9.trans he); have r5 := fun w' he => q5 w' (he9.trans he); have hxa := (Ext.refl w9).alloc (.cells #[.int .i64 kd, .int .i64 X, .int .i64 Y, .int .i64 Z, .int .u8 tr, .int .u8 co] 85); have HOA := Lib.hid (HO8.out.later (he9.trans hxa)); have HWA := Lib.hid (HW8.out.ext (he9.trans hxa)); have HBA := Lib.hid (HB8.out.later (he9.trans hxa)); have Hrw := Lib.hid (Gr.row_alloc w9 #[.int .i64 kd, .int .i64 X, .int .i64 Y, .int .i64 Z, .int .u8 tr, .int .u8 co] 85); clear he9 hxa q0 q1 q2 q3 q4 q5 Hnr HO8 HW8)
                  | (refine Gr.own_append_at brick_elem rfl _ _ 23 rfl Tryz.underlying23 (.slice VA tn vc) tn _ rfl HOA.out ⟨w9.heap.size, 0, none⟩ 1 1 [.int .i64 kd, .int .i64 X, .int .i64 Y, .int .i64 Z, .int .u8 tr, .int .u8 co] rfl rfl Hrw.out (by intro u hu; simp only [List.mem_cons, List.not_mem_nil, or_false] at hu; rcases hu with rfl | rfl | rfl | rfl | rfl | rfl <;> rfl) (by omega) (by unfold maxLen; omega) ?_; intro v11 w11 ho11 hg11 hl11; obtain ⟨X11, c11, rfl⟩ := ho11.form; have hWb := HWA.out.grown hg11 (fun e => (HOA.out.ne_whole HWA.out (by decide)) e.symm); have hw0 := hWb.cell 0 rfl; have hf0 := hWb.free 0; have HG11 := Lib.hid hg11; have HO11 := Lib.hid ho11; have HWb := Lib.hid hWb; clear n0 r0 r1 r2 r3 r4 r5 hg11 hl11 ho11 hWb))
                obtain ⟨w12, hw12⟩ : ∃ w12, w12 = w11.setCell ⟨gn, 0, none⟩ (.slice X11 (tn + 1) c11) := ⟨_, rfl⟩
                have hW12 : Whole w12 gn #[.slice X11 (tn + 1) c11] 25 := by rw [hw12]; exact HWb.out.setCell 0 _
                have hO12 : Own wo w12 85 6 (.slice X11 (tn + 1) c11) (tn + 1) (nx tn ++ [.int .i64 kd, .int .i64 X, .int .i64 Y, .int .i64 Z, .int .u8 tr, .int .u8 co]) := by rw [hw12]; exact HO11.out.other HG.out (HO11.out.ne_whole HWb.out (by decide)) _
                have hBw : Whole (w9.alloc (.cells #[.int .i64 kd, .int .i64 X, .int .i64 Y, .int .i64 Z, .int .u8 tr, .int .u8 co] 85)) g30 #[.int .i64 kd, .int .i64 X, .int .i64 Y, .int .i64 Z, .int .u8 tr, .int .u8 co] 85 := ⟨by
                  obtain ⟨cs, hcs, hcq⟩ := own_whole HBA.out
                  rw [hcq] at hcs
                  exact hcs⟩
                have hB11 := hBw.grown HG11.out (fun e => Nat.lt_irrefl _ (HVL.out _ e.symm))
                have hB12 : Whole w12 g30 #[.int .i64 kd, .int .i64 X, .int .i64 Y, .int .i64 Z, .int .u8 tr, .int .u8 co] 85 := by rw [hw12]; exact hB11.farCell (fun e => Nat.lt_irrefl gn (by have := HGL.out; omega)) 0 _
                rw [← hw12]
                clear hw12 hw0 hf0
                have c0 := hB12.cell 0 rfl
                have c1 := hB12.cell 1 rfl
                have c2 := hB12.cell 2 rfl
                have c3 := hB12.cell 3 rfl
                have c4 := hB12.cell 4 rfl
                have c5 := hB12.cell 5 rfl
                have d0 := hW12.cell 0 rfl
                have q0 := fun w' (he : Ext w12 w') => he.cell c0
                have q1 := fun w' (he : Ext w12 w') => he.cell c1
                have q2 := fun w' (he : Ext w12 w') => he.cell c2
                have q3 := fun w' (he : Ext w12 w') => he.cell c3
                have q4 := fun w' (he : Ext w12 w') => he.cell c4
                have q5 := fun w' (he : Ext w12 w') => he.cell c5
                have n0 := fun w' (he : Ext w12 w') => he.cell d0
                have y0 := fun w' he => Y0.out w' ((Hx.out.trans hO12.ext).trans he)
                have Hx12 := Lib.hid (Hxo.out.trans hO12.ext)
                have Hoo := Lib.hid hO12.ext
                have Hro := Lib.hid hO12.row
                clear c0 c1 c2 c3 c4 c5 d0 hW12 hO12 hBw hB11 hB12 HO11 HWb HG11 HBA HWA HOA Hrw HGL HVL
                go_wp2_with (go_at_call 36; refine (Hcl2.out _ Hx12.out).mono ?_; rintro e w13 ⟨nL, g, cap, z, rfl, he13, hn1, hz, hcz⟩; have n1 := fun w' he => n0 w' (he13.trans he); have y2 := fun w' he => y0 w' (he13.trans he); have He13 := Lib.hid he13; have hnz : (((nL : Nat) : Int) == 0) = false := (by simp; omega); have hzg : ¬ z < gr := (by omega); have hn0 : (0 : Int) < (nL : Int) := (by omega); clear he13 hz hn1 q0 q1 q2 q3 q4 q5 n0 y0)
                have Hc13 := Lib.hid (fun w' (he : Ext w13 w') => Hck2.out w' ((Hx12.out.trans He13.out).trans he) X11 c11 (Row.ext Hro.out (He13.out.trans he)))
                clear Hck2 Hcl2
                refine Cg.wp_region_calm (p := Cg.extPre) (fr := (fun _ => false)) 22 (fun j _ v _ => (j = 10 → v = .int .i64 0)) (fun _ _ _ _ _ _ h => h) (by kernel_rfl) (by kernel_rfl) ?_
                simp only [List.take_succ_cons, List.take_zero, List.drop_succ_cons, List.drop_zero]
                refine Cg.calm_quiet Cg.calm_mono_final w13 (fun _ h => h) 6 (by kernel_rfl) ?_
                simp only [List.take_succ_cons, List.take_zero, List.drop_succ_cons, List.drop_zero]
                repeat (go_big_quiet_step (fail))
                refine wpQuiet_nil ?_
                refine Cg.calm_value Cg.calm_mono_final (fun v _ => v = .bool false) (fun _ _ _ _ h => h) rfl (fun w' hR _ => ⟨_, w', by go_simp, Ext.refl _, rfl, fun hf => by cases hf⟩) ?_
                rintro _ _ _ rfl _
                simp only [Act.put, List.setIfInBounds_toArray, List.set_cons_succ, List.set_cons_zero]
                refine Cg.calm_quiet Cg.calm_mono_final w13 (fun _ h => h) 3 (by kernel_rfl) ?_
                simp only [List.take_succ_cons, List.take_zero, List.drop_succ_cons, List.drop_zero]
                repeat (go_big_quiet_step (fail))
                refine wpQuiet_nil ?_
                refine Cg.calm_call Cg.calm_mono_final 37 #[.slice A n c, .agg #[.slice X11 (tn + 1) c11]] rfl (fun w => ?_) (fun w he hF => ?_) ?_
                · go_simp
                · exact (Hc13.out w he).mono fun e w'' ⟨he', hx⟩ => ⟨_, he', hx, fun _ => rfl, fun h => by cases h⟩
                rintro _ _ _ h _
                cases h rfl
                simp only [Act.put, List.setIfInBounds_toArray, List.set_cons_succ, List.set_cons_zero]
                refine Cg.calm_quiet Cg.calm_mono_final w13 (fun _ h => h) 1 (by kernel_rfl) ?_
                simp only [List.take_succ_cons, List.take_zero, List.drop_succ_cons, List.drop_zero]
                repeat (go_big_quiet_step (fail))
                refine wpQuiet_nil ?_
                refine Cg.calm_value Cg.calm_mono_final (fun v _ => v = .bool false) (fun _ _ _ _ h => h) rfl (fun w' hR _ => ⟨_, w', by go_simp, Ext.refl _, rfl, fun hf => by cases hf⟩) ?_
                rintro _ _ _ rfl _
                simp only [Act.put, List.setIfInBounds_toArray, List.set_cons_succ, List.set_cons_zero]
                refine Cg.calm_quiet Cg.calm_mono_final w13 (fun _ h => h) 8 (by kernel_rfl) ?_
                simp only [List.take_succ_cons, List.take_zero, List.drop_succ_cons, List.drop_zero]
                repeat (go_big_quiet_step (fail))
                refine wpQuiet_nil ?_
                refine Cg.calm_value Cg.calm_mono_final (fun v _ => v = .bool false) (fun _ _ _ _ h => h) rfl (fun w' hR _ => ⟨_, w', by go_simp, Ext.refl _, rfl, fun hf => by cases hf⟩) ?_
                rintro _ _ _ rfl _
                simp only [Act.put, List.setIfInBounds_toArray, List.set_cons_succ, List.set_cons_zero]
                refine Cg.calm_nil fun w14 he14 _ => ?_
                have he14 : Ext w13 w14 := he14
                have Hfin := Lib.hid ((Hx.out.trans Hoo.out).trans (He13.out.trans he14))
                clear he14
                go_wp2
                go_roundw
                case rel => exact ⟨k + 1, by omega, by go_num, Hfin.out⟩
                case measure => simp [intOf]; omega
              · have Hfin := Lib.hid (show Ext w5 w8 from Hx.out.trans (HO8.out.ext))
                rw [show nearB ⟨X, Y, Z⟩ (-1000) 1000 = false from decide_eq_false hnear] at hnr
                have Hnr := Lib.hid hnr
                clear hnr hnear Hcl Hck HW8 HO8 HGL HVL HB8 HE8
                go_wp2_with (go_at_call 35; refine (Hnr.out _).mono ?_; rintro e w9 ⟨rfl, he9⟩; have He9 := Lib.hid (Hfin.out.trans he9); clear he9)
                go_roundw
                case rel => exact ⟨k + 1, by omega, by go_num, He9.out⟩
                case measure => simp [intOf]; omega
        · obtain rfl : N = k := by omega
          clear Hpi Hpb
          go_wp2
          go_ret
          exact PushRes.yes (Hxw5.out.trans hx) HFT.out
end Go.Proofs.YtebkhdhhajjhfaaGreat.Lt
