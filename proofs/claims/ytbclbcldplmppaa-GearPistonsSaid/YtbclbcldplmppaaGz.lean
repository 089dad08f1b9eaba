/- Pistons, tenth text: the code's Cycle. -/
import Derived.Test.YtbclbcldplmppaaGy
namespace Go.Proofs.Ytbclbcldplmppaa
open Go.RowKit

set_option maxHeartbeats 400000 in
theorem cycle_many (A : Option Addr) (c n : Nat) (w : World) (hn : ¬ (1 ≤ n ∧ n ≤ 6)) :
    Calls Try.prog 19 #[.slice A n c] w fun e w' => e = .returned (.tuple #[.int .i64 0, .int .i64 0, .int .i64 4]) ∧ Ext w w' := by
  have hn' : n = 0 ∨ 6 < n := by omega
  clear hn
  rcases hn' with rfl | hn
  all_goals
    go_enter Try.func19, Try.ntmps19
    go_wp2
    go_ret3
    exact ⟨rfl, Ext.refl _⟩

set_option maxHeartbeats 1600000 in
theorem cycle_any (A : Option Addr) (c : Nat) (ps : List Pis) (w : World) (hA : PRow w A ps) (h1 : 1 ≤ ps.length) (h6 : ps.length ≤ 6) :
    Calls Try.prog 19 #[.slice A ps.length c] w fun e w' => e = .returned (.tuple #[.int .i64 ((cycAll ps).1 : Nat), .int .i64 ((cycAll ps).2.1 : Nat), .int .i64 ((cycAll ps).2.2 : Nat)]) ∧ Ext w w' := by
  have hr := fun k (hk : k < ps.length) => hA.at_ hk
  have cv := fun k (hk : k < ps.length) (w' : World) (he : Ext w w') => check_piston ps[k].a ps[k].c ps[k].lift ps[k].op ps[k].st w' ((hA.lifts _ (List.getElem_mem hk)).ext he) (hA.small _ (List.getElem_mem hk))
  have ct := fun k (hk : k < ps.length) (hn : 0 < ps[k].lift.length) (x : Int) (t : Nat) (h1 : 1 ≤ t) (h2 : t ≤ 1000000) (h3 : 0 ≤ x) (h4 : x ≤ 1000000) (w' : World) (he : Ext w w') => tick_any ps[k].a ps[k].c ps[k].lift ps[k].op ps[k].st x t w' ((hA.lifts _ (List.getElem_mem hk)).ext he) hn (hA.small _ (List.getElem_mem hk)) h1 h2 h3 h4
  have Hr := Lib.hid hr
  have Cv := Lib.hid cv
  have Ct := Lib.hid ct
  clear hr cv ct hA
  obtain ⟨m, hm⟩ : ∃ m, m = ps.length := ⟨_, rfl⟩
  rw [← hm] at h1 h6 ⊢
  have Hm := Lib.hid hm
  clear hm
  go_enter Try.func19, Try.ntmps19
  go_wp2
  go_loopw [24, 3] (fun i L wr => ∃ k : Nat, k ≤ m ∧ i = .int .i64 k ∧ L = .int .i64 (lcmTo ps k) ∧ Ext w wr ∧ ∀ j (hj : j < ps.length), j < k → vpP ps[j].lift ps[j].op ps[j].st) (fun i _ _ => m - (intOf i).toNat)
  case atStart => exact ⟨0, by omega, rfl, rfl, Ext.refl _, fun j _ hj => by omega⟩
  case round =>
    obtain ⟨k, hk, rfl, rfl, hex, hall⟩ := hrel
    have Hall := Lib.hid hall
    clear hall
    by_cases hlt : k < m
    · have hkp : k < ps.length := by rw [← Hm.out]; exact hlt
      obtain ⟨ad, rfl, q0, q1, q2, _⟩ := Hr.out k hkp
      have q0 := q0 wr hex
      have q1 := q1 wr hex
      have q2 := q2 wr hex
      have cv := Cv.out k hkp
      have hstep : vpP ps[k].lift ps[k].op ps[k].st → ∀ j (hj : j < ps.length), j < k + 1 → vpP ps[j].lift ps[j].op ps[j].st := fun h j hj hjk => by
        by_cases e : j = k
        · subst e; exact h
        · exact Hall.out j hj (by omega)
      have hbad : ¬ vpP ps[k].lift ps[k].op ps[k].st → cycAll ps = (0, 0, 2) := fun h => cycAll_bad fun hh => h (Pis.okP (hh _ (List.getElem_mem hkp)))
      have hL := lcmTo_le' ps k (fun j hj hjk => ⟨(Hall.out j hj hjk).1, (Hall.out j hj hjk).2.1⟩)
      have hL2 := pow24 (i := k) (by omega)
      have hLs := lcmTo_succ ps k hkp
      have hq24 : vpP ps[k].lift ps[k].op ps[k].st → 1 ≤ ps[k].lift.length ∧ ps[k].lift.length ≤ 24 := fun h => ⟨h.1, h.2.1⟩
      have Cv' := Lib.hid cv
      have Hst := Lib.hid hstep
      have Hbad := Lib.hid hbad
      have HLs := Lib.hid hLs
      have Hq24 := Lib.hid hq24
      have hL3 : lcmTo ps k ≤ 191102976 := by omega
      have hL4 := hL.1
      clear hstep cv hbad hL hL2 hLs hq24
      have hcp : cpS ps[k].lift ps[k].op ps[k].st = if vpP ps[k].lift ps[k].op ps[k].st then 0 else 2 := by simp [cpS, vpB]
      rw [hcp] at Cv'
      clear hcp
      have hcell0 : ∀ w', Ext (wr.alloc (.cells #[.slice ps[k].a ps[k].lift.length ps[k].c, .int .i64 ps[k].op, .int .i64 ps[k].st] 24)) w' → w'.cell? ⟨wr.heap.size, 0, none⟩ = some (.slice ps[k].a ps[k].lift.length ps[k].c) := fun w' he => he.cell (by simp)
      generalize lcmTo ps k = L at *
      generalize ps[k].lift.length = q at *
      generalize ps[k].a = a at *
      generalize ps[k].c = c0 at *
      by_cases hv : vpP ps[k].lift ps[k].op ps[k].st
      · rw [if_pos hv] at Cv'
        obtain ⟨hq1, hq2⟩ := Hq24.out hv
        go_wp2_with (go_at_call 17; refine (Cv'.out _ (hex.trans (by simp))).mono ?_; rintro e w1 ⟨rfl, hx⟩)
        have hcell1 := fun w' (he : Ext w1 w') => hcell0 w' (hx.trans he)
        have hg1 : Nat.gcd q L ≤ q := Nat.le_of_dvd (by omega) (Nat.gcd_dvd_left q L)
        have hg0 : 0 < Nat.gcd q L := Nat.gcd_pos_of_pos_left L (by omega)
        have hls := lcm_step L q
        rw [← HLs.out] at hls
        have hdv : L / Nat.gcd q L ≤ L := Nat.div_le_self _ _
        have hdq : L / Nat.gcd q L * q ≤ 191102976 * 24 := Nat.mul_le_mul (by omega) hq2
        have cd := fun w' => divisor_any (q : Int) (L : Int) w' (by omega) (by omega) (fun _ => by omega)
        rw [dvS_nat] at cd
        have Cd := Lib.hid cd
        have Hls := Lib.hid hls
        have e1 : IntKind.i64.wrap ((L : Int) / ((Nat.gcd q L : Nat) : Int)) = ((L / Nat.gcd q L : Nat) : Int) := by
          rw [← Int.natCast_ediv]; exact wrap_nat _ (Nat.le_trans hdv (by omega))
        have e2 : IntKind.i64.wrap (((L / Nat.gcd q L : Nat) : Int) * (q : Int)) = ((L / Nat.gcd q L * q : Nat) : Int) := by
          rw [← Int.natCast_mul]; exact wrap_nat _ (Nat.le_trans hdq (by omega))
        have e1' : IntKind.i64.wrap ((L : Int).tdiv ((Nat.gcd q L : Nat) : Int)) = ((L / Nat.gcd q L : Nat) : Int) := by
          rw [Int.tdiv_eq_ediv_of_nonneg (by omega)]; exact e1
        have e3 : ¬ Nat.gcd q L = 0 := by omega
        clear cd hls
        generalize L / Nat.gcd q L * q = L2 at *
        generalize L / Nat.gcd q L = L1 at *
        generalize Nat.gcd q L = G at *
        refine wp_region_calm 12 (fun _ _ v _ => v = .int .i64 (G : Int)) (fun _ _ _ _ _ _ h => h) (by kernel_rfl) (by kernel_rfl) ?_
        simp only [List.take_succ_cons, List.take_zero, List.drop_succ_cons, List.drop_zero]
        refine calm_quiet calm_mono_final 5 (by kernel_rfl) ?_
        simp only [List.take_succ_cons, List.take_zero, List.drop_succ_cons, List.drop_zero]
        repeat (go_big_quiet_step (fail))
        refine wpQuiet_nil ?_
        refine calm_call calm_mono_final 58 #[.int .i64 (q : Int), .int .i64 (L : Int)] rfl (fun w => ?_) (fun w he _ => ?_) ?_
        · go_simp
        · exact (Cd.out _).mono fun e w'' ⟨he', hx⟩ => ⟨_, he', hx, rfl⟩
        rintro _ _ _ rfl
        simp only [Act.put, List.setIfInBounds_toArray, List.set_cons_succ, List.set_cons_zero]
        refine calm_quiet calm_mono_final 6 (by kernel_rfl) ?_
        simp only [List.take_succ_cons, List.take_zero, List.drop_succ_cons, List.drop_zero]
        repeat (go_big_quiet_step (fail))
        refine wpQuiet_nil ?_
        refine calm_nil fun w3 he3 _ => ?_
        go_wp2
        go_roundw
        case rel => exact ⟨k + 1, by omega, by go_num, by rw [Hls.out], hex.trans ((Ext.alloc (Ext.refl _) _).trans (hx.trans he3)), Hst.out hv⟩
        case measure => simp [intOf]; omega
      · rw [if_neg hv] at Cv'
        go_wp2_with (go_at_call 17; refine (Cv'.out _ (hex.trans (by simp))).mono ?_; rintro e w1 ⟨rfl, hx⟩)
        go_ret3
        exact ⟨retn3 (by rw [Hbad.out hv]; rfl) (by rw [Hbad.out hv]; rfl) (by rw [Hbad.out hv]; rfl), hex.trans (Ext.trans (by simp) hx)⟩
    · have hkm : k = m := by omega
      have hps : ∀ p ∈ ps, p.ok = true := fun p hp => by
        obtain ⟨j, hj, rfl⟩ := List.getElem_of_mem hp
        have := Hall.out j hj (by rw [← Hm.out] at hj; omega)
        simpa [Pis.ok, vpB] using this
      have hL0 : lcmTo ps k = lcmS ps := by rw [hkm, Hm.out]; rfl
      have hall24 : ∀ p ∈ ps, 1 ≤ p.lift.length ∧ p.lift.length ≤ 24 := fun p hp => ⟨(p.okP (hps p hp)).1, (p.okP (hps p hp)).2.1⟩
      have hpos : 0 < lcmTo ps k := lcmTo_pos ps (fun p hp => (hall24 p hp).1) k
      by_cases h5 : 5000 < lcmTo ps k
      · have hbad : cycAll ps = (0, 0, 2) := by rw [cycAll_good hps]; exact cycS_big hps (by rw [← hL0]; exact h5)
        have Hbad := Lib.hid hbad
        clear hbad hps hall24 hL0 hkm hpos
        generalize lcmTo ps k = L at *
        go_wp2
        go_ret3
        exact ⟨retn3 (by rw [Hbad.out]; rfl) (by rw [Hbad.out]; rfl) (by rw [Hbad.out]; rfl), hex⟩
      · have hgood : cycAll ps = (kAll ps (lcmTo ps k) * lcmTo ps k, lcmTo ps k, 0) := by rw [cycAll_good hps, hL0]; exact cycS_small hps (by rw [← hL0]; omega)
        have hka : allCalm ps (lcmTo ps k) (kAll ps (lcmTo ps k)) = true ∧ kAll ps (lcmTo ps k) ≤ 20 ∧ ∀ j, j < kAll ps (lcmTo ps k) → allCalm ps (lcmTo ps k) j = false := by
          rw [hL0]; exact kAll_spec hps ((lcmS_dvd ps _).1 (Nat.dvd_refl _))
        have hbd : ∀ j (hj : j < ps.length) t, 0 ≤ ps[j].at t ∧ ps[j].at t ≤ 20 := fun j hj t => by
          have hv := Pis.okP (hps _ (List.getElem_mem hj))
          have := place_bd ps[j].lift ps[j].op ps[j].st hv.2.2.2.2.2.1 t
          have h20 := hv.2.2.2.2.2.2
          unfold Pis.at
          omega
        have hpl : ∀ j (hj : j < ps.length), 0 < ps[j].lift.length := fun j hj => (hall24 _ (List.getElem_mem hj)).1
        have hnz := nx_zero ps (lcmTo ps k)
        have Hgood := Lib.hid hgood
        have Hka := Lib.hid hka
        have Hbd := Lib.hid hbd
        have Hpl := Lib.hid hpl
        rw [← Hm.out] at hnz
        have Hnz := Lib.hid hnz
        clear hgood hka hbd hps hall24 hL0 hkm hpl hnz Cv
        have hK20 := Hka.out.2.1
        generalize lcmTo ps k = n at *
        go_wp2_with (refine own_make (w1 := w) int_elem rfl _ _ rfl Try.underlying22 _ m rfl rfl (by omega) (by unfold maxLen; omega) hex ?_; intro w2 hown0 hx0)
        rw [Hnz.out] at hown0
        obtain ⟨wo, rfl⟩ : ∃ wo : World, wo = wr := ⟨_, rfl⟩
        go_loopw [3, 8, 9] (fun l3 v t wq => ∃ K : Nat, l3 = .int .i64 n ∧ K ≤ kAll ps n ∧ t = .int .i64 ((K * n : Nat) : Int) ∧ Own w wq 3 1 v m ((nx ps n (K * n) 0 0).map vint)) (fun _ _ t _ => 22 * n - (intOf t).toNat)
        case atStart => exact ⟨0, rfl, Nat.zero_le _, by simp, by rw [Nat.zero_mul]; exact hown0⟩
        case round =>
          obtain ⟨K, rfl, hK, rfl, hown⟩ := hrel
          have hT20 : K * n ≤ 20 * n := Nat.mul_le_mul_right n (by omega)
          have hsame := nx_same ps n K
          rw [← Hm.out] at hsame
          have hnxt : ∀ i, nx ps n (K * n) i n = nx ps n (K * n) (i + 1) 0 := nx_next ps n (K * n)
          have hfull := nx_full ps n (K * n)
          rw [← Hm.out, show K * n + n = (K + 1) * n by rw [Nat.add_mul]; omega] at hfull
          have hlen : ∀ i j, (nx ps n (K * n) i j).length = m := fun i j => by rw [nx_length, Hm.out]
          have hset : ∀ i j (hi : i < ps.length), (nx ps n (K * n) i j).set i (ps[i].at (K * n + j + 1)) = nx ps n (K * n) i (j + 1) := fun i j hi => nx_set ps n (K * n) i j hi
          have hget : ∀ i j (hi : i < ps.length), (nx ps n (K * n) i j)[i]? = some (ps[i].at (K * n + j)) := fun i j hi => nx_get ps n (K * n) i j hi
          have hnext : ((K * n + n : Nat) : Int) = (((K + 1) * n : Nat) : Int) := by rw [Nat.add_mul]; omega
          have Hsame := Lib.hid hsame
          have Hnxt := Lib.hid hnxt
          have Hfull := Lib.hid hfull
          have Hlen := Lib.hid hlen
          have Hset := Lib.hid hset
          have Hget := Lib.hid hget
          have Hnext := Lib.hid hnext
          have hKT : K = kAll ps n → K * n = kAll ps n * n := fun h => by rw [h]
          have HKT := Lib.hid hKT
          clear hsame hnxt hfull hlen hset hget hnext hKT
          generalize hTe : K * n = T at *
          have HTe := Lib.hid hTe
          clear hTe
          obtain ⟨g, cg, rfl, hge, hgl⟩ := hown.at_ (by omega)
          have hexq := hown.ext
          have ccl := clone_ints (some ⟨g, 0, none⟩) cg (nx ps n T 0 0) wr hown.row (by rw [Hlen.out]; omega) (by rw [Hlen.out]; omega)
          rw [Hlen.out] at ccl
          have Ccl := Lib.hid ccl
          clear ccl
          go_wp2_with (go_at_call 59; refine Ccl.out.mono ?_; rintro e w3 ⟨v3, rfl, hown3⟩)
          unfold OwnI at hown3
          rw [Hlen.out] at hown3
          obtain ⟨g3, cg3, rfl, hge3, hgl3⟩ := hown3.at_ (by omega)
          obtain ⟨wp, rfl⟩ : ∃ wp : World, wp = wr := ⟨_, rfl⟩
          go_loopw [57] (fun ii wq => ∃ i : Nat, i ≤ m ∧ ii = .int .i64 i ∧ Own wp wq 3 1 (.slice (some ⟨g3, 0, none⟩) m cg3) m ((nx ps n T i 0).map vint)) (fun ii _ => m - (intOf ii).toNat)
          case atStart => exact ⟨0, by omega, rfl, hown3⟩
          case round =>
            obtain ⟨i, hi, rfl, hownq⟩ := hrel
            by_cases hlt2 : i < m
            · have hip : i < ps.length := by rw [← Hm.out]; exact hlt2
              obtain ⟨ad, rfl, q0, q1, q2, _⟩ := Hr.out i hip
              have hei := hexq.trans hownq.ext
              have q0 := q0 wr hei
              have q1 := q1 wr hei
              have q2 := q2 wr hei
              have ct := Ct.out i hip (Hpl.out i hip)
              have hbd := Hbd.out i hip
              have hset := Hset.out i
              have hget := Hget.out i
              have hat : ∀ t, tickS ps[i].lift ps[i].op ps[i].st (ps[i].at t) (t + 1) = ps[i].at (t + 1) := fun _ => rfl
              have hg3 := (hownq.at_ (by omega))
              obtain ⟨g4, cg4, he4, _, hlt4⟩ := hg3
              have hgg : g3 < wr.heap.size := by injection he4 with h1 h2 h3; injection h1 with h1; injection h1 with h1; rw [h1]; exact hlt4
              have Ct' := Lib.hid ct
              have Hbd' := Lib.hid hbd
              have Hset' := Lib.hid hset
              have Hget' := Lib.hid hget
              have Hat := Lib.hid hat
              clear ct hbd hset hget hat he4 hlt4
              generalize ps[i].lift.length = q at *
              generalize ps[i].a = a at *
              generalize ps[i].c = c0 at *
              go_wp2
              obtain ⟨wb, rfl⟩ : ∃ wb : World, wb = wr := ⟨_, rfl⟩
              go_loopw [63, 13] (fun kk _ wq => ∃ j : Nat, j ≤ n ∧ kk = .int .i64 j ∧ Own wp wq 3 1 (.slice (some ⟨g3, 0, none⟩) m cg3) m ((nx ps n T i j).map vint) ∧ wq.cell? ⟨wb.heap.size, 0, none⟩ = some (.slice a q c0) ∧ wq.cell? ⟨wb.heap.size, 1, none⟩ = some (.int .i64 ps[i].op) ∧ wq.cell? ⟨wb.heap.size, 2, none⟩ = some (.int .i64 ps[i].st)) (fun kk _ _ => n - (intOf kk).toNat)
              case atStart => exact ⟨0, by omega, rfl, hownq.alloc _, by simp, by simp, by simp⟩
              case round =>
                obtain ⟨j, hj, rfl, hownj, b0, b1, b2⟩ := hrel
                by_cases hlt3 : j < n
                · have hcx := hownj.cell (j := i) (by simp [Hlen.out]; exact hlt2)
                  rw [show (List.map vint (nx ps n T i j))[i]? = some (vint (ps[i].at (T + j))) by rw [List.getElem?_map, Hget'.out j hip]; rfl] at hcx
                  have hbx := Hbd'.out (T + j)
                  have hatj := Hat.out (T + j)
                  have c0' := fun w' (he : Ext wr w') => he.cell b0
                  have c1' := fun w' (he : Ext wr w') => he.cell b1
                  have c2' := fun w' (he : Ext wr w') => he.cell b2
                  have c3' := fun w' (he : Ext wr w') => he.cell hcx
                  have hsetj := Hset'.out j hip
                  have hlenj := Hlen.out i j
                  have hej : Ext w wr := hexq.trans hownj.ext
                  have hexj := hownj
                  have Hatj := Lib.hid hatj
                  have Hsetj := Lib.hid hsetj
                  have Hlenj := Lib.hid hlenj
                  have Hb0 := Lib.hid b0
                  have Hb1 := Lib.hid b1
                  have Hb2 := Lib.hid b2
                  have e1 : IntKind.i64.wrap ((T : Int) + (j : Int)) = ((T + j : Nat) : Int) := by rw [IntKind.wrap_i64]; omega
                  have e2 : IntKind.i64.wrap (((T + j : Nat) : Int) + 1) = ((T + j + 1 : Nat) : Int) := by rw [IntKind.wrap_i64]; omega
                  have b3 : (i : Int) < (m : Int) := by omega
                  clear hatj hsetj hlenj hcx b0 b1 b2
                  generalize ps[i].at (T + j + 1) = y at *
                  generalize ps[i].at (T + j) = x at *
                  go_wp2
                  refine wp_region_calm 12 (fun _ _ v _ => v = .int .i64 y) (fun _ _ _ _ _ _ h => h) (by kernel_rfl) (by kernel_rfl) ?_
                  simp only [List.take_succ_cons, List.take_zero, List.drop_succ_cons, List.drop_zero]
                  refine calm_quiet calm_mono_final 11 (by kernel_rfl) ?_
                  simp only [List.take_succ_cons, List.take_zero, List.drop_succ_cons, List.drop_zero]
                  repeat (go_big_quiet_step (fail))
                  refine wpQuiet_nil ?_
                  refine calm_call calm_mono_final 52 #[.agg #[.slice a q c0, .int .i64 ps[i].op, .int .i64 ps[i].st], .int .i64 x, .int .i64 ((T + j + 1 : Nat) : Int)] rfl (fun w => ?_) (fun w he _ => ?_) ?_
                  · go_simp
                  · exact (Ct'.out x (T + j + 1) (by omega) (by omega) (by omega) (by omega) w (hej.trans he)).mono fun e w'' ⟨he', hx⟩ => ⟨_, he', hx, by rw [Hatj.out]⟩
                  rintro _ _ _ rfl
                  refine calm_nil fun w7 he7 _ => ?_
                  have hown7 := hexj.later he7
                  obtain ⟨z, hz⟩ : ∃ z, w7.cell? ⟨g3, i, none⟩ = some z := ⟨_, (hown7.cell (j := i) (by simp [Hlenj.out]; exact hlt2)).trans (List.getElem?_eq_getElem (by simp [Hlenj.out]; exact hlt2))⟩
                  have hf := hown7.free i
                  have hne : ∀ o, (⟨g3, i, none⟩ : Addr) ≠ ⟨wb.heap.size, o, none⟩ := fun o h => by injection h with h; omega
                  go_wp2
                  go_roundw
                  case rel =>
                    refine ⟨j + 1, by omega, by go_num, ?_, ?_, ?_, ?_⟩
                    · rw [← Hsetj.out, List.map_set]
                      exact hown7.store i _
                    · rw [World.cell?_setCell_other _ _ _ _ (hne 0)]; exact he7.cell Hb0.out
                    · rw [World.cell?_setCell_other _ _ _ _ (hne 1)]; exact he7.cell Hb1.out
                    · rw [World.cell?_setCell_other _ _ _ _ (hne 2)]; exact he7.cell Hb2.out
                  case measure => simp [intOf]; omega
                · have hjn : j = n := by omega
                  subst hjn
                  go_wp2
                  go_roundw
                  case rel => exact ⟨i + 1, by omega, by go_num, by rw [← Hnxt.out]; exact hownj⟩
                  case measure => simp [intOf]; omega
            · have him : i = m := by omega
              subst him
              have hrow1 := hownq.row
              have hrow2 : Row wr (some ⟨g, 0, none⟩) ((nx ps n T 0 0).map vint) := Row.ext hown.row hownq.ext
              have ceq := equal_ints (some ⟨g3, 0, none⟩) (some ⟨g, 0, none⟩) cg3 cg _ _ wr hrow1 hrow2 (by rw [Hlen.out]; omega)
              rw [Hlen.out, Hlen.out, Hsame.out] at ceq
              by_cases hKK : K = kAll ps n
              · have hc : allCalm ps n K = true := by rw [hKK]; exact Hka.out.1
                have hTK := HKT.out hKK
                rw [hc] at ceq
                have Ceq := Lib.hid ceq
                have HTK := Lib.hid hTK
                clear ceq hc hTK hKK
                go_wp2_with (go_at_call 60; refine Ceq.out.mono ?_; rintro e w8 ⟨rfl, hx8⟩)
                go_ret3
                exact ⟨retn3 (by rw [Hgood.out, HTK.out]) (by rw [Hgood.out]) (by rw [Hgood.out]; rfl), hexq.trans (hownq.ext.trans hx8)⟩
              · have hc : allCalm ps n K = false := Hka.out.2.2 K (by omega)
                rw [hc] at ceq
                have Ceq := Lib.hid ceq
                clear ceq hc
                go_wp2_with (go_at_call 60; refine Ceq.out.mono ?_; rintro e w8 ⟨rfl, hx8⟩)
                go_roundw
                case rel => exact ⟨K + 1, rfl, by omega, by rw [← Hnext.out]; go_num, by rw [← Hfull.out]; exact (hownq.later hx8).since hexq⟩
                case measure => simp [intOf]; omega
end Go.Proofs.Ytbclbcldplmppaa
