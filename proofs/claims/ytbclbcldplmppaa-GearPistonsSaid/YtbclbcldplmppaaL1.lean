/- GearPistons: the law's own walk. -/
import Derived.Test.YtbclbcldplmppaaGz
namespace Go.Proofs.Ytbclbcldplmppaa
open Go.RowKit

/-- What both Places hand back: a list (nil with an error), and the error. -/
theorem places_pair (p : Pis) (ticks : Int) (w : World) (hp : Ints w p.a p.lift) (hs : p.lift.length ≤ 100000) :
    ∃ (xs : List Int) (ev : Int), xs.length ≤ 1000000 ∧
      (∀ w', Ext w w' → Calls Try.prog 14 #[p.val, .int .i64 ticks] w' fun e w'' => ∃ A c, e = .returned (.tuple #[.slice A xs.length c, .int .i64 ev]) ∧ Ints w'' A xs ∧ Ext w' w'') ∧
      (∀ w', Ext w w' → Calls Try.prog 15 #[p.val, .int .i64 ticks] w' fun e w'' => ∃ A c, e = .returned (.tuple #[.slice A xs.length c, .int .i64 ev]) ∧ Ints w'' A xs ∧ Ext w' w'') := by
  by_cases hg : vpB p.lift p.op p.st = true ∧ 0 ≤ ticks ∧ ticks ≤ 10000
  · obtain ⟨hv, h0, h1⟩ := hg
    obtain ⟨t, rfl⟩ := Int.eq_ofNat_of_zero_le h0
    refine ⟨placesL p.lift p.op p.st (t + 1), 0, by rw [placesL_length]; omega, fun w' he => ?_, fun w' he => ?_⟩
    · refine (places_good p.a p.c p.lift p.op p.st t w' (hp.ext he) hs hv (by omega)).mono fun e w'' ⟨v, h, hown⟩ => ?_
      obtain ⟨A, c, rfl⟩ := hown.form
      exact ⟨A, c, h, hown.row, hown.ext⟩
    · refine (places_ref_good p.a p.c p.lift p.op p.st t w' (hp.ext he) hs hv (by omega)).mono fun e w'' ⟨v, h, hown⟩ => ?_
      obtain ⟨A, c, rfl⟩ := hown.form
      exact ⟨A, c, h, hown.row, hown.ext⟩
  · refine ⟨[], 2, by simp, fun w' he => ?_, fun w' he => ?_⟩
    · exact (places_bad p.a p.c p.lift p.op p.st ticks w' (hp.ext he) hs hg).mono fun e w'' ⟨h, hx⟩ => ⟨none, 0, h, Ints.nil _ _, hx⟩
    · exact (places_ref_bad p.a p.c p.lift p.op p.st ticks w' (hp.ext he) hs hg).mono fun e w'' ⟨h, hx⟩ => ⟨none, 0, h, Ints.nil _ _, hx⟩

theorem cycle_pair (A : Option Addr) (c : Nat) (ps : List Pis) (w : World) (hA : PRow w A ps) :
    ∃ r1 r2 r3 : Int, (∀ w', Ext w w' → Calls Try.prog 19 #[.slice A ps.length c] w' fun e w'' => e = .returned (.tuple #[.int .i64 r1, .int .i64 r2, .int .i64 r3]) ∧ Ext w' w'') ∧
      (∀ w', Ext w w' → Calls Try.prog 20 #[.slice A ps.length c] w' fun e w'' => e = .returned (.tuple #[.int .i64 r1, .int .i64 r2, .int .i64 r3]) ∧ Ext w' w'') := by
  by_cases hn : 1 ≤ ps.length ∧ ps.length ≤ 6
  · refine ⟨_, _, _, fun w' he => cycle_any A c ps w' (hA.ext he) hn.1 hn.2, fun w' he => ?_⟩
    by_cases hok : ∀ p ∈ ps, p.ok = true
    · rw [cycAll_good hok]
      exact cycle_ref_good A c ps w' (hA.ext he) hn.1 hn.2 hok
    · rw [cycAll_bad hok]
      exact cycle_ref_bad A c ps w' (hA.ext he) hn.1 hn.2 hok
  · exact ⟨0, 0, 4, fun w' he => cycle_many A c ps.length w' hn, fun w' he => cycle_ref_many A c ps.length w' hn⟩

set_option maxHeartbeats 1600000 in
theorem pistons_law (p : Pis) (ticks : Int) (A : Option Addr) (c : Nat) (ps : List Pis) (w : World) (hp : Ints w p.a p.lift) (hrow : Row w A (ps.map Pis.cells).flatten) (hls : ∀ q ∈ ps, Ints w q.a q.lift)
    (b1 : p.lift.length ≤ 9223372036854775807) (b2 : ps.length ≤ 9223372036854775807) (b3 : ∀ q ∈ ps, q.lift.length ≤ 9223372036854775807) :
    Calls Try.prog 3 #[p.val, .int .i64 ticks, .slice A ps.length c] w fun e w' => e = .returned (.bool true) ∧ Ext w w' := by
  by_cases g1 : 300 < ticks ∧ ticks ≤ 10000
  · obtain ⟨h1, h2⟩ := g1
    unfold Pis.val
    generalize p.lift.length = n at *
    generalize ps.length = m at *
    clear hrow hls b3 hp
    go_enter Try.func3, Try.ntmps3
    go_wp2
    go_ret
    exact ⟨rfl, by simp⟩
  by_cases g2 : 30 < p.lift.length
  · unfold Pis.val
    generalize p.lift.length = n at *
    generalize ps.length = m at *
    clear hrow hls b3 hp
    by_cases h1 : 300 < ticks
    all_goals
      have h2 : 300 < ticks → 10000 < ticks := fun h => by omega
      have H2 := Lib.hid h2
      clear h2 g1
    · have h3 := H2.out h1
      go_enter Try.func3, Try.ntmps3
      go_wp2
      go_ret
      exact ⟨rfl, by simp⟩
    · go_enter Try.func3, Try.ntmps3
      go_wp2
      go_ret
      exact ⟨rfl, by simp⟩
  by_cases g3 : 10 < ps.length
  · unfold Pis.val
    generalize p.lift.length = n at *
    generalize ps.length = m at *
    clear hrow hls b3 hp
    have h2 : ticks ≤ 300 ∨ 10000 < ticks := by omega
    clear g1
    rcases h2 with h2 | h2
    all_goals
      go_enter Try.func3, Try.ntmps3
      go_wp2
      go_ret
      exact ⟨rfl, by simp⟩
  -- the lifts of the list: read raw, then all of them small
  have hraw := fun k (hk : k < ps.length) => hrow.struct (size := 3) (by simp [Pis.cells]) (k := k) (by simpa using hk) (by omega)
  have hrawc : ∀ k (hk : k < ps.length), ∃ ad, A = some ad ∧ ∀ w', Ext w w' → w'.cell? (ad.add (k * 3)) = some (.slice ps[k].a ps[k].lift.length ps[k].c) := fun k hk => by
    obtain ⟨ad, ha, hc⟩ := hraw k hk
    refine ⟨ad, ha, fun w' he => ?_⟩
    have := hc 0 (by omega) w' he
    rw [add_zero_] at this
    simpa [Pis.cells] using this
  have b3' : ∀ k (hk : k < ps.length), ps[k].lift.length ≤ 9223372036854775807 := fun k hk => b3 _ (List.getElem_mem hk)
  have hsm : (∀ k (hk : k < ps.length), ps[k].lift.length ≤ 30) → PRow w A ps := fun h => ⟨hrow, hls, fun q hq => by
    obtain ⟨k, hk, rfl⟩ := List.getElem_of_mem hq
    have := h k hk
    omega⟩
  have hpl := places_pair p ticks w hp (by omega)
  obtain ⟨m, hm⟩ : ∃ m, m = ps.length := ⟨_, rfl⟩
  have hcy : (∀ k (hk : k < ps.length), ps[k].lift.length ≤ 30) → ∃ r1 r2 r3 : Int, (∀ w', Ext w w' → Calls Try.prog 19 #[.slice A m c] w' fun e w'' => e = .returned (.tuple #[.int .i64 r1, .int .i64 r2, .int .i64 r3]) ∧ Ext w' w'') ∧
      (∀ w', Ext w w' → Calls Try.prog 20 #[.slice A m c] w' fun e w'' => e = .returned (.tuple #[.int .i64 r1, .int .i64 r2, .int .i64 r3]) ∧ Ext w' w'') := fun h => by
    rw [hm]
    exact cycle_pair A c ps w (hsm h)
  have hcp := fun w' (he : Ext w w') => check_piston p.a p.c p.lift p.op p.st w' (hp.ext he) (by omega)
  have hcr := fun w' (he : Ext w w') => check_piston_ref p.a p.c p.lift p.op p.st w' (hp.ext he) (by omega)
  obtain ⟨xs, ev, hxs, P1, P2⟩ := hpl
  have Hraw := Lib.hid hrawc
  have B3 := Lib.hid b3'
  have Hcy := Lib.hid hcy
  have Hcp := Lib.hid hcp
  have Hcr := Lib.hid hcr
  have HP1 := Lib.hid P1
  have HP2 := Lib.hid P2
  clear hrawc b3' hcy hcp hcr P1 P2 hsm hraw hrow hls hp b3
  have h2 : ticks ≤ 300 ∨ 10000 < ticks := by omega
  clear g1
  unfold Pis.val at *
  generalize p.lift.length = n at *
  generalize p.a = pa at *
  generalize p.c = pc at *
  generalize cpS p.lift p.op p.st = cp at *
  rw [← hm] at g3 b2 ⊢
  have Hm := Lib.hid hm
  clear hm
  rcases h2 with h2 | h2
  all_goals
    go_enter Try.func3, Try.ntmps3
    go_wp2
    go_loop [35, 7] (fun i _ => ∃ k : Nat, k ≤ m ∧ i = .int .i64 k ∧ ∀ j (hj : j < ps.length), j < k → ps[j].lift.length ≤ 30) (fun i _ => m - (intOf i).toNat)
    case atStart => exact ⟨0, by omega, rfl, fun j _ hj => by omega⟩
    case round =>
      obtain ⟨k, hk, rfl, hall⟩ := hrel
      have Hall := Lib.hid hall
      clear hall
      by_cases hlt : k < m
      · have hkp : k < ps.length := by rw [← Hm.out]; exact hlt
        obtain ⟨ad, rfl, hc⟩ := Hraw.out k hkp
        have hc1 := hc (w.alloc (.cells #[.slice pa n pc, .int .i64 p.op, .int .i64 p.st] 24)) (by simp)
        have hb := B3.out k hkp
        have hst : ps[k].lift.length ≤ 30 → ∀ j (hj : j < ps.length), j < k + 1 → ps[j].lift.length ≤ 30 := fun h j hj hjk => by
          by_cases e : j = k
          · subst e; exact h
          · exact Hall.out j hj (by omega)
        have Hst := Lib.hid hst
        clear hst hc
        generalize ps[k].lift.length = q at *
        go_wp2
        · go_ret
          exact ⟨rfl, by simp⟩
        · go_round
          case rel => exact ⟨k + 1, by omega, by go_num, Hst.out (by omega)⟩
          case measure => simp [intOf]; omega
      · obtain ⟨r1, r2, r3, C1, C2⟩ := Hcy.out (fun k hk => Hall.out k hk (by rw [← Hm.out] at hk; omega))
        have HC1 := Lib.hid C1
        have HC2 := Lib.hid C2
        have hw0 : Ext w (w.alloc (.cells #[.slice pa n pc, .int .i64 p.op, .int .i64 p.st] 24)) := by simp
        have hp0 : ∀ w', Ext (w.alloc (.cells #[.slice pa n pc, .int .i64 p.op, .int .i64 p.st] 24)) w' → w'.cell? ⟨w.heap.size, 0, none⟩ = some (.slice pa n pc) := fun w' he => he.cell (by simp)
        have hp1 : ∀ w', Ext (w.alloc (.cells #[.slice pa n pc, .int .i64 p.op, .int .i64 p.st] 24)) w' → w'.cell? ⟨w.heap.size, 1, none⟩ = some (.int .i64 p.op) := fun w' he => he.cell (by simp)
        have hp2 : ∀ w', Ext (w.alloc (.cells #[.slice pa n pc, .int .i64 p.op, .int .i64 p.st] 24)) w' → w'.cell? ⟨w.heap.size, 2, none⟩ = some (.int .i64 p.st) := fun w' he => he.cell (by simp)
        clear C1 C2
        go_wp2_with (first
          | (go_at_call 14; refine (HP1.out _ hw0).mono ?_; rintro e w1 ⟨A1, c1, rfl, hI1, hx1⟩)
          | (go_at_call 15; refine (HP2.out _ (hw0.trans hx1)).mono ?_; rintro e w2 ⟨A2, c2, rfl, hI2, hx2⟩))
        have k0 := fun w' (he : Ext w2 w') => hp0 w' (hx1.trans (hx2.trans he))
        have k1 := fun w' (he : Ext w2 w') => hp1 w' (hx1.trans (hx2.trans he))
        have k2 := fun w' (he : Ext w2 w') => hp2 w' (hx1.trans (hx2.trans he))
        have hw2 : Ext w w2 := hw0.trans (hx1.trans hx2)
        have hs : sameB xs xs = true := (sameB_true rfl fun _ _ => rfl).symm
        have csame := fun w' (he : Ext w2 w') => same_ints A1 A2 c1 c2 xs xs w' (hI1.ext (hx2.trans he)) (hI2.ext he) hxs
        rw [hs] at csame
        have Csame := Lib.hid csame
        clear csame hs
        generalize xs.length = nx at *
        refine wp_region_calm 16 (fun j _ v _ => v = bif j == 2 then .bool true else .int .i64 cp) (fun _ _ _ _ _ _ h => h) (by kernel_rfl) (by kernel_rfl) ?_
        simp only [List.take_succ_cons, List.take_zero, List.drop_succ_cons, List.drop_zero]
        refine calm_quiet calm_mono_final 2 (by kernel_rfl) ?_
        simp only [List.take_succ_cons, List.take_zero, List.drop_succ_cons, List.drop_zero]
        repeat (go_big_quiet_step (fail))
        refine wpQuiet_nil ?_
        refine calm_call calm_mono_final 16 #[.slice A1 nx c1, .slice A2 nx c2] rfl (fun w => ?_) (fun w' he _ => ?_) ?_
        · go_simp
        · exact (Csame.out w' he).mono fun e w'' ⟨he', hx⟩ => ⟨_, he', hx, rfl⟩
        intro v _ _ hv
        have hv' : v = .bool true := hv
        clear hv
        subst hv'
        simp only [Act.put, List.setIfInBounds_toArray, List.set_cons_succ, List.set_cons_zero]
        refine calm_quiet calm_mono_final 8 (by kernel_rfl) ?_
        simp only [List.take_succ_cons, List.take_zero, List.drop_succ_cons, List.drop_zero]
        repeat (go_big_quiet_step (fail))
        refine wpQuiet_nil ?_
        refine calm_call calm_mono_final 17 #[.agg #[.slice pa n pc, .int .i64 p.op, .int .i64 p.st]] rfl (fun w => ?_) (fun w' he _ => ?_) ?_
        · go_simp
        · exact (Hcp.out w' (hw2.trans he)).mono fun e w'' ⟨he', hx⟩ => ⟨_, he', hx, rfl⟩
        intro v _ _ hv
        have hv' : v = .int .i64 cp := hv
        clear hv
        subst hv'
        simp only [Act.put, List.setIfInBounds_toArray, List.set_cons_succ, List.set_cons_zero]
        refine calm_quiet calm_mono_final 1 (by kernel_rfl) ?_
        simp only [List.take_succ_cons, List.take_zero, List.drop_succ_cons, List.drop_zero]
        repeat (go_big_quiet_step (fail))
        refine wpQuiet_nil ?_
        refine calm_call calm_mono_final 18 #[.agg #[.slice pa n pc, .int .i64 p.op, .int .i64 p.st]] rfl (fun w => ?_) (fun w' he _ => ?_) ?_
        · go_simp
        · exact (Hcr.out w' (hw2.trans he)).mono fun e w'' ⟨he', hx⟩ => ⟨_, he', hx, rfl⟩
        intro v _ _ hv
        have hv' : v = .int .i64 cp := hv
        clear hv
        subst hv'
        simp only [Act.put, List.setIfInBounds_toArray, List.set_cons_succ, List.set_cons_zero]
        refine calm_quiet calm_mono_final 2 (by kernel_rfl) ?_
        simp only [List.take_succ_cons, List.take_zero, List.drop_succ_cons, List.drop_zero]
        repeat (go_big_quiet_step (fail))
        refine wpQuiet_nil ?_
        refine calm_nil fun w3 he3 _ => ?_
        have hw3 := hw2.trans he3
        go_wp2_with (first
          | (go_at_call 19; refine (HC1.out _ hw3).mono ?_; rintro e w4 ⟨rfl, hx4⟩)
          | (go_at_call 20; refine (HC2.out _ (hw3.trans hx4)).mono ?_; rintro e w5 ⟨rfl, hx5⟩))
        go_ret
        exact ⟨ret_b (by simp), hw3.trans (hx4.trans hx5)⟩
end Go.Proofs.Ytbclbcldplmppaa
