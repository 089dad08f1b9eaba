/- Pistons, eighth text: the reference's Cycle. -/
import Derived.Test.YtbclbcldplmppaaGw
namespace Go.Proofs.Ytbclbcldplmppaa
open Go.RowKit

theorem retn3 {a b c a' b' c' : Int} (h1 : a = a') (h2 : b = b') (h3 : c = c') : Ending.returned (.tuple #[.int .i64 a, .int .i64 b, .int .i64 c]) = .returned (.tuple #[.int .i64 a', .int .i64 b', .int .i64 c']) := by rw [h1, h2, h3]

theorem stR_succ (ps : List Pis) (n i : Nat) (hi : i < ps.length) : stR ps n (i + 1) = max (stR ps n i) (ps[i].first n * n) := by
  conv => lhs; unfold stR
  rw [List.getElem?_eq_getElem hi]

set_option maxHeartbeats 400000 in
theorem cycle_ref_many (A : Option Addr) (c n : Nat) (w : World) (hn : ¬ (1 ≤ n ∧ n ≤ 6)) :
    Calls Try.prog 20 #[.slice A n c] w fun e w' => e = .returned (.tuple #[.int .i64 0, .int .i64 0, .int .i64 4]) ∧ Ext w w' := by
  have hw : withinB (n : Int) 1 6 = false := withinB_false.2 fun h => hn (by omega)
  clear hn
  go_enter Try.func20, Try.ntmps20
  go_wp2_with (go_at_call 54; refine (within_any _ _ _ _).mono ?_; rintro e w' ⟨rfl, rfl⟩)
  go_ret3
  exact ⟨rfl, Ext.refl _⟩

/-- Some piston is not valid. -/
theorem cycle_ref_bad (A : Option Addr) (c : Nat) (ps : List Pis) (w : World) (hA : PRow w A ps) (h1 : 1 ≤ ps.length) (h6 : ps.length ≤ 6) (hbad : ¬ ∀ p ∈ ps, p.ok = true) :
    Calls Try.prog 20 #[.slice A ps.length c] w fun e w' => e = .returned (.tuple #[.int .i64 0, .int .i64 0, .int .i64 2]) ∧ Ext w w' := by
  have hr := fun k (hk : k < ps.length) => hA.at_ hk
  have cv := fun k (hk : k < ps.length) (w' : World) (he : Ext w w') => valid_piston ps[k].a ps[k].c ps[k].lift ps[k].op ps[k].st w' ((hA.lifts _ (List.getElem_mem hk)).ext he) (hA.small _ (List.getElem_mem hk))
  have hb : ¬ ∀ k (hk : k < ps.length), vpB ps[k].lift ps[k].op ps[k].st = true := fun h => hbad fun p hp => by
    obtain ⟨i, hi, rfl⟩ := List.getElem_of_mem hp
    exact h i hi
  have Hr := Lib.hid hr
  have Cv := Lib.hid cv
  have Hb := Lib.hid hb
  have hw : withinB (ps.length : Int) 1 6 = true := withinB_true.2 (by omega)
  clear hr cv hbad hb hA
  obtain ⟨m, hm⟩ : ∃ m, m = ps.length := ⟨_, rfl⟩
  rw [← hm] at h1 h6 hw ⊢
  have Hm := Lib.hid hm
  clear hm
  go_enter Try.func20, Try.ntmps20
  go_wp2_with (go_at_call 54; refine (within_any _ _ _ _).mono ?_; rintro e w' ⟨rfl, rfl⟩)
  go_loopw [5] (fun i wr => ∃ k : Nat, k ≤ m ∧ i = .int .i64 k ∧ Ext w wr ∧ ∀ j (hj : j < ps.length), j < k → vpB ps[j].lift ps[j].op ps[j].st = true) (fun i _ => m - (intOf i).toNat)
  case atStart => exact ⟨0, by omega, rfl, Ext.refl _, fun j _ hj => by omega⟩
  case round =>
    obtain ⟨k, hk, rfl, hex, hall⟩ := hrel
    have Hall := Lib.hid hall
    clear hall
    by_cases hlt : k < m
    · have hkp : k < ps.length := by rw [← Hm.out]; exact hlt
      obtain ⟨ad, rfl, q0, q1, q2, _⟩ := Hr.out k hkp
      have q0 := q0 wr hex
      have q1 := q1 wr hex
      have q2 := q2 wr hex
      have cv := Cv.out k hkp wr hex
      have hstep : vpB ps[k].lift ps[k].op ps[k].st = true → ∀ j (hj : j < ps.length), j < k + 1 → vpB ps[j].lift ps[j].op ps[j].st = true := fun h j hj hjk => by
        by_cases e : j = k
        · subst e; exact h
        · exact Hall.out j hj (by omega)
      have Cv' := Lib.hid cv
      have Hst := Lib.hid hstep
      clear hstep cv
      cases hv : vpB ps[k].lift ps[k].op ps[k].st
      all_goals
        rw [hv] at Cv'
        generalize ps[k].lift.length = q at *
        generalize ps[k].a = a at *
        generalize ps[k].c = c0 at *
        have Hv := Lib.hid hv
        clear hv
      · go_wp2_with (go_at_call 53; refine Cv'.out.mono ?_; rintro e w' ⟨rfl, hx⟩)
        go_ret3
        exact ⟨rfl, hex.trans hx⟩
      · go_wp2_with (go_at_call 53; refine Cv'.out.mono ?_; rintro e w' ⟨rfl, hx⟩)
        go_roundw
        case rel => exact ⟨k + 1, by omega, by go_num, hex.trans hx, Hst.out Hv.out⟩
        case measure => simp [intOf]; omega
    · exact absurd (fun j hj => Hall.out j hj (by rw [← Hm.out] at hj; omega)) Hb.out

def cycS (ps : List Pis) : Nat × Nat × Nat := if 5000 < perS ps then (0, 0, 2) else (stR ps (perS ps) ps.length, perS ps, 0)

theorem getI_placesL {lift : List Int} {op st : Int} {w1 w : World} {g m c n i : Nat} (h : Own w1 w 3 1 (.slice (some ⟨g, 0, none⟩) m c) n ((placesL lift op st n).map vint)) (hi : i < n) : w.cell? ⟨g, i, none⟩ = some (.int .i64 (placeS lift op st i)) := by
  rw [h.cell (by simp [placesL_length]; exact hi)]
  simp [placesL, hi]

set_option maxHeartbeats 1600000 in
theorem cycle_ref_good (A : Option Addr) (c : Nat) (ps : List Pis) (w : World) (hA : PRow w A ps) (h1 : 1 ≤ ps.length) (h6 : ps.length ≤ 6) (hok : ∀ p ∈ ps, p.ok = true) :
    Calls Try.prog 20 #[.slice A ps.length c] w fun e w' => e = .returned (.tuple #[.int .i64 ((cycS ps).1 : Nat), .int .i64 ((cycS ps).2.1 : Nat), .int .i64 ((cycS ps).2.2 : Nat)]) ∧ Ext w w' := by
  have hpos : ∀ p ∈ ps, 0 < p.lift.length := fun p hp => by have := (p.okP (hok p hp)).1; omega
  have hr := fun k (hk : k < ps.length) => hA.at_ hk
  have cv := fun k (hk : k < ps.length) (w' : World) (he : Ext w w') => valid_piston ps[k].a ps[k].c ps[k].lift ps[k].op ps[k].st w' ((hA.lifts _ (List.getElem_mem hk)).ext he) (hA.small _ (List.getElem_mem hk))
  have hb : ∀ k (hk : k < ps.length), vpB ps[k].lift ps[k].op ps[k].st = true := fun k hk => hok _ (List.getElem_mem hk)
  have cp := fun (w' : World) (he : Ext w w') => period_any A c ps w' (hA.ext he) (by omega) hpos
  have cm := fun k (hk : k < ps.length) (ticks : Nat) (ht : ticks ≤ 200000) (w' : World) (he : Ext w w') => moved_any ps[k].a ps[k].c ps[k].lift ps[k].op ps[k].st ticks w' ((hA.lifts _ (List.getElem_mem hk)).ext he) (hA.small _ (List.getElem_mem hk)) (hb k hk) ht
  have hfit := perS_spec ps
  have hfirst : perS ps ≤ 5000 → ∀ k (hk : k < ps.length), ps[k].calm (perS ps) (ps[k].first (perS ps)) = true ∧ ps[k].first (perS ps) ≤ 20 ∧ ∀ j, j < ps[k].first (perS ps) → ps[k].calm (perS ps) j = false := fun hp k hk => by
    have hd := (lcmS_dvd ps (perS ps)).1 ((fits_iff ps _ hp).1 hfit.1)
    exact Pis.first_spec (hok _ (List.getElem_mem hk)) (hd _ (List.getElem_mem hk))
  have hst := fun i (hi : i < ps.length) => stR_succ ps (perS ps) i hi
  have hsl : perS ps ≤ 5000 → ∀ i, stR ps (perS ps) i ≤ 20 * perS ps := fun hp i => by
    have hd := (lcmS_dvd ps (perS ps)).1 ((fits_iff ps _ hp).1 hfit.1)
    have h1 := stR_le hok hd i
    have h2 := Nat.mul_le_mul_right (perS ps) (kAll_spec hok hd).2.1
    omega
  have hfin : cycS ps = if 5000 < perS ps then (0, 0, 2) else (stR ps (perS ps) ps.length, perS ps, 0) := rfl
  have hn1 := hfit.2.1
  have hn2 := hfit.2.2.1
  have Hr := Lib.hid hr
  have Cv := Lib.hid cv
  have Hb := Lib.hid hb
  have Cp := Lib.hid cp
  have Cm := Lib.hid cm
  have Hfi := Lib.hid hfirst
  have Hst := Lib.hid hst
  have Hsl := Lib.hid hsl
  have Hfin := Lib.hid hfin
  have hw : withinB (ps.length : Int) 1 6 = true := withinB_true.2 (by omega)
  clear hr cv hok hb hA cp cm hfit hfirst hst hsl hfin hpos
  generalize perS ps = n at *
  obtain ⟨m, hm⟩ : ∃ m, m = ps.length := ⟨_, rfl⟩
  rw [← hm] at h1 h6 hw Cp Hfin ⊢
  have Hm := Lib.hid hm
  clear hm
  go_enter Try.func20, Try.ntmps20
  go_wp2_with (go_at_call 54; refine (within_any _ _ _ _).mono ?_; rintro e w' ⟨rfl, rfl⟩)
  go_loopw [5] (fun i wr => ∃ k : Nat, k ≤ m ∧ i = .int .i64 k ∧ Ext w wr) (fun i _ => m - (intOf i).toNat)
  case atStart => exact ⟨0, by omega, rfl, Ext.refl _⟩
  case round =>
    obtain ⟨k, hk, rfl, hex⟩ := hrel
    by_cases hlt : k < m
    · have hkp : k < ps.length := by rw [← Hm.out]; exact hlt
      obtain ⟨ad, rfl, q0, q1, q2, _⟩ := Hr.out k hkp
      have q0 := q0 wr hex
      have q1 := q1 wr hex
      have q2 := q2 wr hex
      have cv := Cv.out k hkp wr hex
      rw [Hb.out k hkp] at cv
      have Cv' := Lib.hid cv
      clear cv
      generalize ps[k].lift.length = q at *
      generalize ps[k].a = a at *
      generalize ps[k].c = c0 at *
      go_wp2_with (go_at_call 53; refine Cv'.out.mono ?_; rintro e w' ⟨rfl, hx⟩)
      go_roundw
      case rel => exact ⟨k + 1, by omega, by go_num, hex.trans hx⟩
      case measure => simp [intOf]; omega
    · by_cases h5 : 5000 < n
      · go_wp2_with (go_at_call 61; refine (Cp.out _ hex).mono ?_; rintro e w' ⟨rfl, rfl⟩)
        go_ret3
        exact ⟨retn3 (by rw [Hfin.out, if_pos h5]; rfl) (by rw [Hfin.out, if_pos h5]; rfl) (by rw [Hfin.out, if_pos h5]; rfl), hex⟩
      · have e0 : IntKind.i64.wrap ((n : Int) * 22) = ((n * 22 : Nat) : Int) := by rw [IntKind.wrap_i64]; omega
        go_wp2_with (go_at_call 61; refine (Cp.out _ hex).mono ?_; rintro e w' ⟨rfl, rfl⟩)
        obtain ⟨wo, rfl⟩ : ∃ wo : World, wo = wr := ⟨_, rfl⟩
        go_loopw [7, 8] (fun s i wr => ∃ k : Nat, k ≤ m ∧ i = .int .i64 k ∧ s = .int .i64 (stR ps n k) ∧ Ext w wr) (fun _ i _ => m - (intOf i).toNat)
        case atStart => exact ⟨0, by omega, rfl, rfl, hex⟩
        case round =>
          obtain ⟨i, hi, rfl, rfl, hex2⟩ := hrel
          by_cases hlt2 : i < m
          · have hip : i < ps.length := by rw [← Hm.out]; exact hlt2
            obtain ⟨ad, rfl, q0, q1, q2, _⟩ := Hr.out i hip
            have q0 := q0 wr hex2
            have q1 := q1 wr hex2
            have q2 := q2 wr hex2
            have cm := Cm.out i hip (n * 22) (by omega) wr hex2
            have hfr := Hfi.out (by omega) i hip
            have hs1 := Hst.out i hip
            have hs2 := Hsl.out (by omega) i
            have hs3 := Hsl.out (by omega) (i + 1)
            have Cm' := Lib.hid cm
            have Hfr := Lib.hid hfr
            have Hs1 := Lib.hid hs1
            have hf20 := hfr.2.1
            clear cm hfr hs1
            have hat : ∀ t, ps[i].at t = placeS ps[i].lift ps[i].op ps[i].st t := fun _ => rfl
            have Hat := Lib.hid hat
            clear hat
            generalize ps[i].a = a at *
            generalize ps[i].c = c0 at *
            go_wp2_with (go_at_call 55; refine Cm'.out.mono ?_; rintro e w2 ⟨v, rfl, hown⟩)
            unfold OwnI at hown
            rw [placesL_length] at hown
            obtain ⟨g, cap, rfl, _, _⟩ := hown.at_ (by omega)
            have hcell := fun t (ht : t < n * 22 + 1) => getI_placesL hown ht
            have hx2 := hown.ext
            have Hcell := Lib.hid hcell
            clear hcell hown
            obtain ⟨w5, rfl⟩ : ∃ w5 : World, w5 = wr := ⟨_, rfl⟩
            go_loopw [10] (fun kk wq => ∃ K : Nat, K ≤ ps[i].first n ∧ kk = .int .i64 K ∧ Ext w2 wq) (fun kk _ => 21 - (intOf kk).toNat)
            case atStart => exact ⟨0, by omega, rfl, Ext.refl _⟩
            case round =>
              obtain ⟨K, hK, rfl, hex3⟩ := hrel
              have hKn : K * n ≤ 20 * n := Nat.mul_le_mul_right n (by omega)
              have hcalm : ps[i].calm n K = decide (placeS ps[i].lift ps[i].op ps[i].st (K * n) = placeS ps[i].lift ps[i].op ps[i].st (K * n + n)) := rfl
              have hfe : K = ps[i].first n → K * n = ps[i].first n * n := fun h => by rw [h]
              have e1 : IntKind.i64.wrap ((K : Int) * (n : Int)) = ((K * n : Nat) : Int) := by
                rw [IntKind.wrap_i64]
                have : ((K * n : Nat) : Int) = (K : Int) * (n : Int) := Int.natCast_mul K n
                omega
              generalize K * n = T at *
              have c1 := fun w' (he : Ext wr w') => (hex3.trans he).cell (Hcell.out T (by omega))
              have c2 := fun w' (he : Ext wr w') => (hex3.trans he).cell (Hcell.out (T + n) (by omega))
              have e2 : IntKind.i64.wrap ((T : Int) + (n : Int)) = ((T + n : Nat) : Int) := by rw [IntKind.wrap_i64]; omega
              have b1 : (T : Int) < ((n * 22 + 1 : Nat) : Int) := by omega
              have b2 : ((T + n : Nat) : Int) < ((n * 22 + 1 : Nat) : Int) := by omega
              have Hcalm := Lib.hid hcalm
              have Hfe := Lib.hid hfe
              clear hcalm hfe
              generalize placeS ps[i].lift ps[i].op ps[i].st T = x at *
              generalize placeS ps[i].lift ps[i].op ps[i].st (T + n) = y at *
              by_cases hK2 : K < ps[i].first n
              · have hne : x ≠ y := by
                  have := Hfr.out.2.2 K hK2
                  rw [Hcalm.out] at this
                  exact of_decide_eq_false this
                have hb : (x != y) = true := by rw [bne_iff_ne]; exact hne
                clear hne
                go_wp2
                go_quiet (fail)
                go_wp2
                go_roundw
                case rel => exact ⟨K + 1, by omega, by go_num, hex3.trans (by simp)⟩
                case measure => simp [intOf]; omega
              · have hK3 : K = ps[i].first n := by omega
                have heq : x = y := by
                  have := Hfr.out.1
                  rw [← hK3, Hcalm.out] at this
                  exact of_decide_eq_true this
                have hb : (x != y) = false := by simp [heq]
                have hT := Hfe.out hK3
                rw [← hT] at Hs1
                clear heq hT hK3
                go_wp2
                go_quiet (fail)
                go_wp2
                go_roundw
                case rel => exact ⟨i + 1, by omega, by go_num, by rw [Hs1.out]; congr 1; split <;> omega, hex2.trans (hx2.trans (hex3.trans (by simp)))⟩
                case measure => simp [intOf]; omega
          · have him : i = m := by omega
            go_wp2
            go_ret3
            exact ⟨retn3 (by rw [Hfin.out, if_neg h5, him, Hm.out]) (by rw [Hfin.out, if_neg h5]) (by rw [Hfin.out, if_neg h5]; rfl), hex2⟩
end Go.Proofs.Ytbclbcldplmppaa
