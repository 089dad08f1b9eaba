/- GearCycle: the law's own walk. -/
import Derived.Test.YtbclbcldplmppaaMy01
namespace Go.Proofs.Ytbclbcldplmppaa
open Go.RowKit

/-- From a calm period on all goes on as a period before. -/
theorem per_all {lift : List Int} {op st : Int} {n k : Nat} (hd : n % lift.length = 0) (h : placeS lift op st (k * n) = placeS lift op st (k * n + n)) (t : Nat) : placeS lift op st (k * n + t) = placeS lift op st (k * n + t + n) := by
  have h1 := run_add lift op st (k * n) (dvd_mul hd k) t
  have h2 := run_add lift op st (k * n + n) (by rw [Nat.add_mod, dvd_mul hd k, hd]; simp) t
  rw [h1, show k * n + t + n = k * n + n + t by omega, h2, h]
/-- Whether one of the first pistons does not do the same a period earlier. -/
def diffB (ps : List Pis) (n T : Nat) : Nat → Bool
  | 0 => false
  | k + 1 => diffB ps n T k || (decide (0 < T) && decide (pat ps k (T - n) ≠ pat ps k T))
theorem diffB_of {ps : List Pis} {n T j : Nat} (hT : 0 < T) (hd : pat ps j (T - n) ≠ pat ps j T) : ∀ {k}, j < k → diffB ps n T k = true
  | 0, h => by omega
  | k + 1, h => by
    unfold diffB
    by_cases e : j = k
    · subst e; simp [hT, hd]
    · rw [diffB_of hT hd (k := k) (by omega)]; rfl
theorem diffB_all {ps : List Pis} {n : Nat} (hok : ∀ p ∈ ps, p.ok = true) (hd : ∀ p ∈ ps, n % p.lift.length = 0) (h0 : 0 < kAll ps n * n) : diffB ps n (kAll ps n * n) ps.length = true := by
  have hK : 0 < kAll ps n := Nat.pos_of_ne_zero fun e => by rw [e, Nat.zero_mul] at h0; omega
  have h1 := (kAll_spec hok hd).2.2 (kAll ps n - 1) (by omega)
  generalize kAll ps n = K at *
  obtain ⟨q, rfl⟩ : ∃ q, K = q + 1 := ⟨K - 1, by omega⟩
  rw [Nat.add_sub_cancel] at h1
  unfold allCalm at h1
  rw [List.all_eq_false] at h1
  obtain ⟨p, hp, hne⟩ := h1
  obtain ⟨j, hj, rfl⟩ := List.getElem_of_mem hp
  refine diffB_of h0 (j := j) ?_ hj
  rw [pat_eq hj, pat_eq hj, Nat.add_mul, Nat.one_mul, Nat.add_sub_cancel]
  intro e
  exact hne (decide_eq_true e)

set_option maxRecDepth 100000 in
set_option maxHeartbeats 8000000 in
theorem cycle_law (A : Option Addr) (c : Nat) (ps : List Pis) (w : World) (hrow : Row w A (ps.map Pis.cells).flatten) (hls : ∀ q ∈ ps, PisOk w q) :
    Calls Try.prog 12 #[.slice A ps.length c] w fun e w' => e = .returned (.bool true) ∧ Ext w w' := by
  by_cases g3 : 10 < ps.length
  · clear hrow hls
    generalize ps.length = m at *
    go_enter Try.func12, Try.ntmps12
    (repeat (first
      | (go_at_call 43; refine (alive_any _).mono ?_; rintro e w1 ⟨rfl, hx1⟩; simp only [])
      | go_values | go_skip | go_guarded | go_step | go_upon))
    go_ret
    exact ⟨rfl, hx1⟩
  have hraw := fun k (hk : k < ps.length) => hrow.struct (size := 3) (by simp [Pis.cells]) (k := k) (by simpa using hk) (by omega)
  have hrawc : ∀ k (hk : k < ps.length), ∃ ad, A = some ad ∧ ∀ w', Ext w w' → w'.cell? (ad.add (k * 3)) = some (.slice ps[k].a ps[k].lift.length ps[k].c) := fun k hk => by
    obtain ⟨ad, ha, hc⟩ := hraw k hk
    refine ⟨ad, ha, fun w' he => ?_⟩
    have := hc 0 (by omega) w' he
    rw [add_zero_] at this
    simpa [Pis.cells] using this
  have b3' : ∀ k (hk : k < ps.length), ps[k].lift.length ≤ 9223372036854775807 := fun k hk => (hls _ (List.getElem_mem hk)).len
  have hsm : (∀ k (hk : k < ps.length), ps[k].lift.length ≤ 30) → PRow w A ps := fun h => ⟨hrow, fun q hq => (hls q hq).lift, fun q hq => by
    obtain ⟨k, hk, rfl⟩ := List.getElem_of_mem hq
    have := h k hk
    omega⟩
  have Hraw := Lib.hid hrawc
  have B3 := Lib.hid b3'
  have Hsm := Lib.hid hsm
  clear hrawc b3' hsm hraw hrow hls
  obtain ⟨m, hm⟩ : ∃ m, m = ps.length := ⟨_, rfl⟩
  rw [← hm] at g3 ⊢
  have Hm := Lib.hid hm
  clear hm
  go_enter Try.func12, Try.ntmps12
  (repeat (first | go_values | go_skip | go_guarded | go_step | go_upon))
  go_at_call 43
  refine (alive_any _).mono ?_
  rintro e w1 ⟨rfl, hx1⟩
  simp only []
  (repeat (first | go_values | go_skip | go_guarded | go_step | go_upon))
  go_loop [21] (fun i => ∃ k : Nat, k ≤ m ∧ i = .int .i64 k ∧ ∀ j (hj : j < ps.length), j < k → ps[j].lift.length ≤ 30) (fun i => m - (intOf i).toNat)
  case atStart => exact ⟨0, by omega, rfl, fun j _ hj => by omega⟩
  case round =>
    obtain ⟨k, hk, rfl, hall⟩ := hrel
    have Hall := Lib.hid hall
    clear hall
    by_cases hlt : k < m
    · have hkp : k < ps.length := by rw [← Hm.out]; exact hlt
      obtain ⟨ad, rfl, hc⟩ := Hraw.out k hkp
      have hc1 := hc w1 hx1
      have hb := B3.out k hkp
      have hki : (k : Int) < (m : Int) := by omega
      have hst : ps[k].lift.length ≤ 30 → ∀ j (hj : j < ps.length), j < k + 1 → ps[j].lift.length ≤ 30 := fun h j hj hjk => by
        by_cases e : j = k
        · subst e; exact h
        · exact Hall.out j hj (by omega)
      have Hst := Lib.hid hst
      clear hst hc
      generalize ps[k].lift.length = q at *
      by_cases hq : 30 < q
      · (repeat (first | go_values | go_skip | go_guarded | go_step | go_upon))
        go_ret
        exact ⟨rfl, hx1⟩
      · (repeat (first | go_values | go_skip | go_guarded | go_step | go_upon))
        refine ⟨⟨k + 1, by omega, by go_num, Hst.out (by omega)⟩, ?_⟩
        simp [intOf]
        omega
    · have hP := Hsm.out (fun j hj => Hall.out j hj (by rw [← Hm.out] at hj; omega))
      obtain rfl : m = k := by omega
      clear Hall Hsm Hraw B3 hlt hk
      have hbadc : ∀ z : Int, z ≠ 0 → (∀ w', Ext w w' → Calls Try.prog 19 #[.slice A m c] w' fun e w'' => e = .returned (.tuple #[.int .i64 0, .int .i64 0, .int .i64 z]) ∧ Ext w' w'') ∨ True := fun _ _ => .inr trivial
      clear hbadc
      have hcases : (∃ z : Int, ¬ z = 0 ∧ ∀ w', Ext w w' → Calls Try.prog 19 #[.slice A m c] w' fun e w'' => e = .returned (.tuple #[.int .i64 0, .int .i64 0, .int .i64 z]) ∧ Ext w' w'') ∨
          ((∀ p ∈ ps, p.ok = true) ∧ 1 ≤ lcmS ps ∧ kAll ps (lcmS ps) ≤ 20 ∧ allCalm ps (lcmS ps) (kAll ps (lcmS ps)) = true ∧ (∀ p ∈ ps, lcmS ps % p.lift.length = 0) ∧ ∀ w', Ext w w' → Calls Try.prog 19 #[.slice A m c] w' fun e w'' => e = .returned (.tuple #[.int .i64 ((kAll ps (lcmS ps) * lcmS ps : Nat) : Int), .int .i64 ((lcmS ps : Nat) : Int), .int .i64 0]) ∧ Ext w' w'') := by
        rw [Hm.out]
        by_cases hn : 1 ≤ ps.length ∧ ps.length ≤ 6
        · by_cases hok : ∀ p ∈ ps, p.ok = true
          · by_cases h5 : 5000 < lcmS ps
            · refine .inl ⟨2, by decide, fun w' he => ?_⟩
              have := cycle_any A c ps w' (hP.ext he) hn.1 hn.2
              rw [cycAll_good hok, cycS_big hok h5] at this
              exact this
            · have hd := (lcmS_dvd ps _).1 (Nat.dvd_refl (lcmS ps))
              have hsp := kAll_spec hok hd
              refine .inr ⟨hok, ?_, hsp.2.1, hsp.1, hd, fun w' he => ?_⟩
              · exact (lcmTo_le' ps ps.length fun j hj _ => by
                  have := Pis.okP (hok _ (List.getElem_mem hj))
                  exact ⟨this.1, this.2.1⟩).1
              · have := cycle_any A c ps w' (hP.ext he) hn.1 hn.2
                rw [cycAll_good hok, cycS_small hok (by omega)] at this
                exact this
          · refine .inl ⟨2, by decide, fun w' he => ?_⟩
            have := cycle_any A c ps w' (hP.ext he) hn.1 hn.2
            rw [cycAll_bad hok] at this
            exact this
        · exact .inl ⟨4, by decide, fun w' he => cycle_many A c ps.length w' hn⟩
      rcases hcases with ⟨z, hz, cc⟩ | ⟨hok, hn1, hK, hcalm, hdv, cc⟩
      · have Cc := Lib.hid cc
        have hz' : (z != 0) = true := by rw [bne_iff_ne]; exact hz
        clear cc
        (repeat (first | go_values | go_skip | go_guarded | go_step | go_upon))
        go_at_call 19
        refine (Cc.out _ hx1).mono ?_
        rintro e w2 ⟨rfl, hx2⟩
        simp only []
        (repeat (first | go_values | go_skip | go_guarded | go_step | go_upon))
        go_ret
        exact ⟨rfl, hx1.trans hx2⟩
      have Cc := Lib.hid cc
      clear cc
      have hdall : 0 < kAll ps (lcmS ps) * lcmS ps → diffB ps (lcmS ps) (kAll ps (lcmS ps) * lcmS ps) ps.length = true := fun h => diffB_all hok hdv h
      have hat := fun k (hk : k < ps.length) => hP.at_ hk
      have cpl := fun k (hk : k < ps.length) (t : Nat) (ht : t ≤ 10000) (w' : World) (he : Ext w w') => places_good ps[k].a ps[k].c ps[k].lift ps[k].op ps[k].st t w' ((hP.lifts _ (List.getElem_mem hk)).ext he) (hP.small _ (List.getElem_mem hk)) (hok _ (List.getElem_mem hk)) ht
      have hper : ∀ k (hk : k < ps.length), ∀ t, placeS ps[k].lift ps[k].op ps[k].st (kAll ps (lcmS ps) * lcmS ps + t) = placeS ps[k].lift ps[k].op ps[k].st (kAll ps (lcmS ps) * lcmS ps + t + lcmS ps) := fun k hk t => by
        unfold allCalm at hcalm
        rw [List.all_eq_true] at hcalm
        exact per_all (hdv _ (List.getElem_mem hk)) (of_decide_eq_true (hcalm _ (List.getElem_mem hk))) t
      have hlen : ∀ k (hk : k < ps.length), 0 < ps[k].lift.length := fun k hk => by have := (Pis.okP (hok _ (List.getElem_mem hk))).1; omega
      have hmd := fun k (hk : k < ps.length) => hdv _ (List.getElem_mem hk)
      have hpa := fun k (hk : k < ps.length) (t : Nat) => (show pat ps k t = placeS ps[k].lift ps[k].op ps[k].st t from pat_eq hk t)
      generalize kAll ps (lcmS ps) = K at *
      generalize lcmS ps = n at *
      have hTn : K * n ≤ 20 * n := Nat.mul_le_mul_right n hK
      have hTm : (K * n) % n = 0 := Nat.mul_mod_left K n
      have hT0 : 0 < K * n → n ≤ K * n := fun h => by
        have : 0 < K := Nat.pos_of_ne_zero fun e => by rw [e, Nat.zero_mul] at h; omega
        exact Nat.le_mul_of_pos_left n this
      generalize K * n = T at *
      have Hdall := Lib.hid hdall
      have Hat := Lib.hid hat
      have Cpl := Lib.hid cpl
      have Hper := Lib.hid hper
      have Hlen := Lib.hid hlen
      have Hmd := Lib.hid hmd
      have Hpa := Lib.hid hpa
      have HT0 := Lib.hid hT0
      clear hdall hat cpl hper hlen hmd hpa hP hok hcalm hdv hK hT0
      by_cases k400 : 400 < n
      · have k4' : (400 : Int) < (n : Int) := by omega
        (repeat (first | go_values | go_skip | go_guarded | go_step | go_upon))
        go_at_call 19
        refine (Cc.out _ hx1).mono ?_
        rintro e w2 ⟨rfl, hx2⟩
        simp only []
        (repeat (first | go_values | go_skip | go_guarded | go_step | go_upon))
        go_ret
        exact ⟨rfl, hx1.trans hx2⟩
      have k4' : ¬ (400 : Int) < (n : Int) := by omega
      have f1 : ¬ (n : Int) < 1 := by omega
      have f2 : ¬ (T : Int) < 0 := by omega
      have f3 : ((T : Int)).tmod (n : Int) = 0 := by
        rw [Int.tmod_eq_emod_of_nonneg (by omega)]
        have := Int.natCast_emod T n
        rw [← this, hTm]; rfl
      have f3' : (T : Int) % (n : Int) = 0 := by
        have := Int.natCast_emod T n
        rw [← this, hTm]; rfl
      have f4 : IntKind.i64.wrap (20 * (n : Int)) = ((20 * n : Nat) : Int) := by rw [IntKind.wrap_i64]; omega
      have f5 : ¬ ((20 * n : Nat) : Int) < (T : Int) := by omega
      have f6 : ¬ (n : Int) = 0 := by omega
      have f7 : IntKind.i64.wrap (2 * (n : Int)) = ((2 * n : Nat) : Int) := by rw [IntKind.wrap_i64]; omega
      have f8 : IntKind.i64.wrap ((T : Int) + ((2 * n : Nat) : Int)) = ((T + 2 * n : Nat) : Int) := by rw [IntKind.wrap_i64]; omega
      have f9 : IntKind.i64.wrap (((T + 2 * n : Nat) : Int) + 1) = ((T + 2 * n + 1 : Nat) : Int) := by rw [IntKind.wrap_i64]; omega
      (repeat (first | go_values | go_skip | go_guarded | go_step | go_upon))
      go_at_call 19
      refine (Cc.out _ hx1).mono ?_
      rintro e w2 ⟨rfl, hx2⟩
      simp only []
      (repeat (first | go_values | go_skip | go_guarded | go_step | go_upon))
      have Hw2 := Lib.hid (hx1.trans hx2)
      clear hx1 hx2 Cc
      clear f4 f5 f7 f8 f9 f3 f3' f1 f2 k4'
      obtain ⟨u, hu⟩ : ∃ u : Nat, u = T + 2 * n := ⟨_, rfl⟩
      have u1 : (T : Int) + 2 * (n : Int) = (u : Int) := by omega
      have u2 : IntKind.i64.wrap ((u : Int) + 1) = ((u + 1 : Nat) : Int) := by rw [IntKind.wrap_i64]; omega
      have hu8 : u ≤ 10000 := by omega
      have Hu := Lib.hid hu
      clear hu
      go_loopw [66, 8] (fun i dv wr => ∃ k : Nat, k ≤ m ∧ i = .int .i64 k ∧ dv = .bool (diffB ps n T k) ∧ Ext w2 wr) (fun i _ _ => m - (intOf i).toNat)
      case atStart => exact ⟨0, by omega, rfl, rfl, Ext.refl _⟩
      case round =>
        obtain ⟨wo, rfl⟩ : ∃ wo : World, wo = wr := ⟨_, rfl⟩
        obtain ⟨i, hi, rfl, rfl, hex⟩ := hrel
        by_cases hlt : i < m
        · have hip : i < ps.length := by rw [← Hm.out]; exact hlt
          clear Hdall
          have hki : (i : Int) < (m : Int) := by omega
          obtain ⟨ad, rfl, q0, q1, q2, hI⟩ := Hat.out i hip
          have hwo := Hw2.out.trans hex
          have q0 : ∀ w', Ext wo w' → _ := fun w' he => q0 w' (hwo.trans he)
          have q1 : ∀ w', Ext wo w' → _ := fun w' he => q1 w' (hwo.trans he)
          have q2 : ∀ w', Ext wo w' → _ := fun w' he => q2 w' (hwo.trans he)
          have hpl := fun (w' : World) (he : Ext wo w') => Cpl.out i hip u hu8 w' (hwo.trans he)
          have hper := Hper.out i hip
          have hlen := Hlen.out i hip
          have hmd := Hmd.out i hip
          have hpa := Hpa.out i hip
          have hdb : diffB ps n T (i + 1) = (diffB ps n T i || (decide (0 < T) && decide (placeS ps[i].lift ps[i].op ps[i].st (T - n) ≠ placeS ps[i].lift ps[i].op ps[i].st T))) := by
            rw [diffB, hpa, hpa]
          have hT0 := HT0.out
          have m1 : ((n : Int)).tmod ((ps[i].lift.length : Nat) : Int) = 0 := by
            rw [Int.tmod_eq_emod_of_nonneg (by omega)]
            have := Int.natCast_emod n ps[i].lift.length
            rw [← this, hmd]; rfl
          have m2 : ((n : Int)) % ((ps[i].lift.length : Nat) : Int) = 0 := by
            have := Int.natCast_emod n ps[i].lift.length
            rw [← this, hmd]; rfl
          clear hpa Hat Cpl Hper Hlen Hmd Hpa HT0 hI hmd
          generalize hpS : (fun t => placeS ps[i].lift ps[i].op ps[i].st t) = pS at *
          have hpSt : ∀ t, placeS ps[i].lift ps[i].op ps[i].st t = pS t := fun t => by rw [← hpS]
          have hcell : ∀ (w5 : World) (A5 : Option Addr), Ints w5 A5 (placesL ps[i].lift ps[i].op ps[i].st (u + 1)) → ∃ a5, A5 = some a5 ∧ ∀ k, k < u + 1 → ∀ w', Ext w5 w' → w'.cell? (a5.add k) = some (.int .i64 (pS k)) := fun w5 A5 h => by
            obtain ⟨a5, e5, hc⟩ := h.some_ (by rw [placesL_length]; omega)
            refine ⟨a5, e5, fun k hk w' he => ?_⟩
            have := hc k (by rw [placesL_length]; exact hk) w' he
            rw [this, ← hpSt]
            simp [getI, placesL, hk]
          have hpl2 : ∀ (w' : World), Ext wo w' → Calls Try.prog 14 #[.agg #[.slice ps[i].a ps[i].lift.length ps[i].c, .int .i64 ps[i].op, .int .i64 ps[i].st], .int .i64 u] w' fun e w'' => ∃ (a5 : Addr) (c5 : Nat), e = .returned (.tuple #[.slice (some a5) (u + 1) c5, .int .i64 0]) ∧ Ext w' w'' ∧ ∀ k, k < u + 1 → ∀ w3, Ext w'' w3 → w3.cell? (a5.add k) = some (.int .i64 (pS k)) := fun w' he => by
            refine (hpl w' he).mono fun e w'' ⟨v, h0, hown⟩ => ?_
            obtain ⟨A5, c5, rfl⟩ := hown.form
            obtain ⟨a5, rfl, hc⟩ := hcell w'' A5 hown.row
            exact ⟨a5, c5, by rw [h0, placesL_length], hown.ext, hc⟩
          simp only [hpSt] at hdb hper
          have Hpl2 := Lib.hid hpl2
          have Hper2 := Lib.hid hper
          have Hdb := Lib.hid hdb
          have hl0 : ((ps[i].lift.length : Nat) : Int) ≠ 0 := by omega
          have hl1 : (((ps[i].lift.length : Nat) : Int) == 0) = false := by simpa using hl0
          clear hpl hpl2 hcell hper hdb hpSt hpS
          generalize ps[i].lift.length = q at *
          generalize ps[i].op = pop at *
          generalize ps[i].st = pst at *
          generalize ps[i].a = pa at *
          generalize ps[i].c = pc at *
          generalize diffB ps n T i = b at *
          (repeat (first | go_values | go_skip | go_guarded | go_step | go_upon))
          go_at_call 14
          refine (Hpl2.out _ ((Ext.refl _).alloc _)).mono ?_
          rintro e w3 ⟨a5, c5, rfl, hx3, hc5⟩
          simp only []
          have hx03 : Ext wo w3 := ((Ext.refl _).alloc _).trans hx3
          have Hc5 := Lib.hid hc5
          clear hc5 q0 q1 q2 hx3 Hpl2
          (repeat (first | go_values | go_skip | go_guarded | go_step | go_upon))
          have Hx3 := Lib.hid (hex.trans hx03)
          clear hx03 hex hwo
          go_loopw [13] (fun z wr => ∃ t : Nat, t ≤ n + 1 ∧ z = .int .i64 ((T + t : Nat) : Int) ∧ Ext w3 wr) (fun z _ => T + n + 1 - (intOf z).toNat)
          case atStart => exact ⟨0, by omega, rfl, Ext.refl _⟩
          case round =>
            obtain ⟨t, ht, rfl, hxr⟩ := hrel
            have hu2 := Hu.out
            by_cases hlt2 : t ≤ n
            · have hca : ∀ w', Ext wr w' → w'.cell? (a5.add (T + t)) = some (.int .i64 (pS (T + t))) := fun w' he => Hc5.out (T + t) (by omega) w' (hxr.trans he)
              have hcb : ∀ w', Ext wr w' → w'.cell? (a5.add (T + t + n)) = some (.int .i64 (pS (T + t))) := fun w' he => by
                rw [Hper2.out t]
                exact Hc5.out (T + t + n) (by omega) w' (hxr.trans he)
              obtain ⟨v, hv⟩ : ∃ v : Nat, v = T + t := ⟨_, rfl⟩
              rw [← hv] at hca hcb ⊢
              obtain ⟨v2, hv2⟩ : ∃ v2 : Nat, v2 = v + n := ⟨_, rfl⟩
              rw [← hv2] at hcb
              have z1 : (v : Int) + (n : Int) = (v2 : Int) := by omega
              have z2 : (v : Int) < ((u + 1 : Nat) : Int) := by omega
              have z3 : (v2 : Int) < ((u + 1 : Nat) : Int) := by omega
              have z4 : (v : Int) ≤ (T : Int) + (n : Int) := by omega
              have z5 : v ≤ 10000 := by omega
              have z6 : v2 ≤ 10000 := by omega
              have hvt : v + 1 = T + (t + 1) := by omega
              have Hvt := Lib.hid hvt
              have Hvv := Lib.hid hv
              generalize pS v = y at *
              clear hv hv2 hu2 hvt Hper2 Hdb Hc5 Hu
              (repeat (first | go_values | go_skip | go_guarded | go_step | go_upon))
              refine wp_region_calm 11 (fun _ _ _ _ => True) (fun _ _ _ _ _ _ h => h) (by kernel_rfl) (by kernel_rfl) ?_
              simp only [List.take_succ_cons, List.take_zero, List.drop_succ_cons, List.drop_zero]
              refine calm_quiet calm_mono_final 11 (by kernel_rfl) ?_
              simp only [List.take_succ_cons, List.take_zero, List.drop_succ_cons, List.drop_zero]
              repeat (go_big_quiet_step (fail))
              refine wpQuiet_nil ?_
              refine calm_nil fun w4 hx4 _ => ?_
              (repeat (first | go_values | go_skip | go_guarded | go_step | go_upon))
              refine ⟨⟨t + 1, by omega, ?_, hxr.trans hx4⟩, ?_⟩
              · rw [← Hvt.out]; go_num
              · have := Hvv.out
                simp [intOf]
                omega
            · obtain rfl : t = n + 1 := by omega
              have z4 : ¬ (((T + (n + 1) : Nat) : Int)) ≤ (T : Int) + (n : Int) := by omega
              have hca : ∀ w', Ext wr w' → w'.cell? (a5.add T) = some (.int .i64 (pS T)) := fun w' he => Hc5.out T (by omega) w' (hxr.trans he)
              have z2 : (T : Int) < ((u + 1 : Nat) : Int) := by omega
              by_cases hT : T = 0
              · have hT1 : ¬ (0 : Int) < (T : Int) := by omega
                have hdb : diffB ps n T (i + 1) = b := by rw [Hdb.out, decide_eq_false (show ¬ 0 < T by omega)]; simp
                clear Hper2 Hdb Hc5 Hu hu2
                (repeat (first | go_values | go_skip | go_guarded | go_step | go_upon))
                cases b
                all_goals
                  refine wp_region_calm 19 (fun _ _ _ _ => True) (fun _ _ _ _ _ _ h => h) (by kernel_rfl) (by kernel_rfl) ?_
                  simp only [List.take_succ_cons, List.take_zero, List.drop_succ_cons, List.drop_zero]
                  refine calm_quiet calm_mono_final 19 (by kernel_rfl) ?_
                  simp only [List.take_succ_cons, List.take_zero, List.drop_succ_cons, List.drop_zero]
                  repeat (go_big_quiet_step (fail))
                  refine wpQuiet_nil ?_
                  refine calm_nil fun w4 hx4 _ => ?_
                  (repeat (first | go_values | go_skip | go_guarded | go_step | go_upon))
                  refine ⟨⟨i + 1, by omega, by go_num, by rw [hdb], Hx3.out.trans (hxr.trans hx4)⟩, ?_⟩
                  simp [intOf]
                  omega
              · have hT1 : (0 : Int) < (T : Int) := by omega
                have hT3 : 0 < T := by omega
                have hnT := hT0 hT3
                have z3 : (T : Int) - (n : Int) = ((T - n : Nat) : Int) := by omega
                have z5 : ((T - n : Nat) : Int) < ((u + 1 : Nat) : Int) := by omega
                have hcb : ∀ w', Ext wr w' → w'.cell? (a5.add (T - n)) = some (.int .i64 (pS (T - n))) := fun w' he => Hc5.out (T - n) (by omega) w' (hxr.trans he)
                have hdb : diffB ps n T (i + 1) = (b || decide (pS (T - n) ≠ pS T)) := by rw [Hdb.out, decide_eq_true (show 0 < T by omega), Bool.true_and]
                have hTn2 : T - n ≤ 10000 := by omega
                clear Hper2 Hdb Hc5 Hu hu2
                generalize pS (T - n) = y1 at *
                generalize pS T = y2 at *
                generalize T - n = v at *
                (repeat (first | go_values | go_skip | go_guarded | go_step | go_upon))
                by_cases hyy : y1 = y2
                · rw [decide_eq_false (by simpa using hyy), Bool.or_false] at hdb
                  subst hyy
                  cases b
                  all_goals
                    refine wp_region_calm 19 (fun _ _ _ _ => True) (fun _ _ _ _ _ _ h => h) (by kernel_rfl) (by kernel_rfl) ?_
                    simp only [List.take_succ_cons, List.take_zero, List.drop_succ_cons, List.drop_zero]
                    refine calm_quiet calm_mono_final 19 (by kernel_rfl) ?_
                    simp only [List.take_succ_cons, List.take_zero, List.drop_succ_cons, List.drop_zero]
                    repeat (go_big_quiet_step (fail))
                    refine wpQuiet_nil ?_
                    refine calm_nil fun w4 hx4 _ => ?_
                    (repeat (first | go_values | go_skip | go_guarded | go_step | go_upon))
                    refine ⟨⟨i + 1, by omega, by go_num, by rw [hdb], Hx3.out.trans (hxr.trans hx4)⟩, ?_⟩
                    simp [intOf]
                    omega
                · rw [decide_eq_true hyy, Bool.or_true] at hdb
                  have hy2 : (y1 == y2) = false := beq_eq_false_iff_ne.2 hyy
                  have hy3 : (y1 != y2) = true := by rw [bne_iff_ne]; exact hyy
                  cases b
                  all_goals
                    refine wp_region_calm 19 (fun _ _ _ _ => True) (fun _ _ _ _ _ _ h => h) (by kernel_rfl) (by kernel_rfl) ?_
                    simp only [List.take_succ_cons, List.take_zero, List.drop_succ_cons, List.drop_zero]
                    refine calm_quiet calm_mono_final 19 (by kernel_rfl) ?_
                    simp only [List.take_succ_cons, List.take_zero, List.drop_succ_cons, List.drop_zero]
                    repeat (go_big_quiet_step (fail))
                    refine wpQuiet_nil ?_
                    refine calm_nil fun w4 hx4 _ => ?_
                    (repeat (first | go_values | go_skip | go_guarded | go_step | go_upon))
                    refine ⟨⟨i + 1, by omega, by go_num, by rw [hdb], Hx3.out.trans (hxr.trans hx4)⟩, ?_⟩
                    simp [intOf]
                    omega
        · obtain rfl : m = i := by omega
          have hd := fun h => Hdall.out h
          rw [← Hm.out] at hd
          by_cases hT : T = 0
          · have hT' : (T : Int) = 0 := by omega
            have hT2 : ((T : Int) == 0) = true := by simpa using hT'
            (repeat (first | go_values | go_skip | go_guarded | go_step | go_upon))
            go_ret
            exact ⟨rfl, Hw2.out.trans hex⟩
          · have hT2 : ((T : Int) == 0) = false := by simp; omega
            rw [hd (by omega)]
            (repeat (first | go_values | go_skip | go_guarded | go_step | go_upon))
            go_ret
            exact ⟨rfl, Hw2.out.trans hex⟩
end Go.Proofs.Ytbclbcldplmppaa
