/- GearTicks: the law's own walk. -/
import Derived.Test.YtbclbcldplmppaaMw01
namespace Go.Proofs.Ytbclbcldplmppaa
open Go.RowKit

theorem tick_cases {lift : List Int} {op st a : Int} {k : Nat} (h0 : 0 ≤ a) (h1 : a ≤ st) :
    (op ≤ getI lift ((k - 1) % lift.length) ∧ tickS lift op st a k - a = 1 ∧ True) ∨ (op ≤ getI lift ((k - 1) % lift.length) ∧ tickS lift op st a k - a = 0 ∧ tickS lift op st a k = a ∧ tickS lift op st a k = st) ∨
    (¬ op ≤ getI lift ((k - 1) % lift.length) ∧ tickS lift op st a k - a = -1 ∧ True) ∨ (¬ op ≤ getI lift ((k - 1) % lift.length) ∧ tickS lift op st a k - a = 0 ∧ tickS lift op st a k = a ∧ tickS lift op st a k = 0) := by
  unfold tickS
  simp only [and_true]
  split <;> omega

set_option maxRecDepth 100000 in
set_option maxHeartbeats 8000000 in
theorem ticks_law (p : Pis) (ticks : Int) (w : World) (hp : PisOk w p) :
    Calls Try.prog 9 #[p.val, .int .i64 ticks] w fun e w' => e = .returned (.bool true) ∧ Ext w w' := by
  obtain ⟨A, c, lift, op, st⟩ := p
  obtain ⟨hA, hlen⟩ := hp
  show Calls Try.prog 9 #[.agg #[.slice A lift.length c, .int .i64 op, .int .i64 st], .int .i64 ticks] w _
  have hA : Ints w A lift := hA
  have hlen : lift.length ≤ 9223372036854775807 := hlen
  by_cases g1 : 300 < ticks
  · clear hA
    generalize lift.length = n at *
    go_enter Try.func9, Try.ntmps9
    (repeat (first
      | (go_at_call 43; refine (alive_any _).mono ?_; rintro e w1 ⟨rfl, hx1⟩; simp only [])
      | go_values | go_skip | go_guarded | go_step | go_upon))
    go_ret
    exact ⟨rfl, Ext.trans (by simp) hx1⟩
  by_cases g2 : 30 < lift.length
  · clear hA
    generalize lift.length = n at *
    go_enter Try.func9, Try.ntmps9
    have p0 : ∀ w', Ext (w.alloc (.cells #[.slice A n c, .int .i64 op, .int .i64 st] 24)) w' → w'.cell? ⟨w.heap.size, 0, none⟩ = some (.slice A n c) := fun w' he => he.cell (cells_last rfl rfl)
    (repeat (first
      | (go_at_call 43; refine (alive_any _).mono ?_; rintro e w1 ⟨rfl, hx1⟩; simp only [])
      | go_values | go_skip | go_guarded | go_step | go_upon))
    go_ret
    exact ⟨rfl, Ext.trans (by simp) hx1⟩
  by_cases hg : vpB lift op st = true ∧ 0 ≤ ticks ∧ ticks ≤ 10000
  · obtain ⟨hv, h0, h1⟩ := hg
    obtain ⟨t, rfl⟩ := Int.eq_ofNat_of_zero_le h0
    have hvp : vpP lift op st := by simpa [vpB] using hv
    have hn : 0 < lift.length := by have := hvp.1; omega
    have cp := fun (w' : World) (he : Ext w w') => places_good A c lift op st t w' (hA.ext he) (by omega) hv (by omega)
    have Cp := Lib.hid cp
    obtain ⟨ad, rfl, hlc⟩ := hA.some_ hn
    have hlc : ∀ k, k < lift.length → ∀ w', Ext w w' → w'.cell? (ad.add k) = some (.int .i64 (getI lift k)) := hlc
    have Hlc := Lib.hid hlc
    have Hbd := Lib.hid (place_bd lift op st hvp.2.2.2.2.2.1)
    have hst := hvp.2.2.2.2.2.2
    have hop0 := hvp.2.2.2.1
    have hop1 := hvp.2.2.2.2.1
    have hx01 := fun j (hj : j < lift.length) => hvp.2.2.1 j hj
    have Hx01 := Lib.hid hx01
    have htc := fun (k : Nat) (a : Int) (h0 : 0 ≤ a) (h1 : a ≤ st) => tick_cases (lift := lift) (op := op) (k := k) h0 h1
    have Htc := Lib.hid htc
    have hmod := fun k : Nat => Nat.mod_lt k hn
    have Hmod := Lib.hid hmod
    clear cp hlc hv h0 h1 hvp hA hx01 htc hmod
    obtain ⟨n, hn'⟩ : ∃ n, n = lift.length := ⟨_, rfl⟩
    simp only [← hn'] at *
    have Hn := Lib.hid hn'
    clear hn'
    go_enter Try.func9, Try.ntmps9
    have p0 : ∀ w', Ext (w.alloc (.cells #[.slice (some ad) n c, .int .i64 op, .int .i64 st] 24)) w' → w'.cell? ⟨w.heap.size, 0, none⟩ = some (.slice (some ad) n c) := fun w' he => he.cell (cells_last rfl rfl)
    have p1 : ∀ w', Ext (w.alloc (.cells #[.slice (some ad) n c, .int .i64 op, .int .i64 st] 24)) w' → w'.cell? ⟨w.heap.size, 1, none⟩ = some (.int .i64 op) := fun w' he => he.cell (cells_last rfl rfl)
    have p2 : ∀ w', Ext (w.alloc (.cells #[.slice (some ad) n c, .int .i64 op, .int .i64 st] 24)) w' → w'.cell? ⟨w.heap.size, 2, none⟩ = some (.int .i64 st) := fun w' he => he.cell (cells_last rfl rfl)
    have hxb : Ext w (w.alloc (.cells #[.slice (some ad) n c, .int .i64 op, .int .i64 st] 24)) := (Ext.refl w).alloc _
    (repeat (first | go_values | go_skip | go_guarded | go_step | go_upon))
    go_at_call 43
    refine (alive_any _).mono ?_
    rintro e w1 ⟨rfl, hx1⟩
    simp only []
    (repeat (first | go_values | go_skip | go_guarded | go_step | go_upon))
    go_at_call 14
    refine (Cp.out _ (hxb.trans hx1)).mono ?_
    rintro e w2 ⟨v, rfl, hown⟩
    obtain ⟨A2, c2, rfl⟩ := hown.form
    have hi2 := hown.row
    have hx2 := hown.ext
    have hlp : (placesL lift op st (t + 1)).length = t + 1 := by rw [placesL_length]
    obtain ⟨ad2, rfl, hc2⟩ := (show Ints w2 A2 (placesL lift op st (t + 1)) from hi2).some_ (by rw [hlp]; omega)
    have hpc : ∀ k, k < t + 1 → ∀ w', Ext w2 w' → w'.cell? (ad2.add k) = some (.int .i64 (placeS lift op st k)) := fun k hk w' he => by
      have := hc2 k (by rw [hlp]; exact hk) w' he
      rw [this]
      simp [getI, placesL, hk]
    have hpc0 : ∀ w', Ext w2 w' → w'.cell? ad2 = some (.int .i64 0) := fun w' he => by
      have := hpc 0 (by omega) w' he
      rwa [add_zero_] at this
    have Hpc := Lib.hid hpc
    rw [hlp]
    clear hc2 hi2 hown hlp Cp hpc
    simp only []
    have p0 : ∀ w', Ext w2 w' → w'.cell? ⟨w.heap.size, 0, none⟩ = some (.slice (some ad) n c) := fun w' he => p0 w' ((hx1.trans hx2).trans he)
    have p1 : ∀ w', Ext w2 w' → w'.cell? ⟨w.heap.size, 1, none⟩ = some (.int .i64 op) := fun w' he => p1 w' ((hx1.trans hx2).trans he)
    have p2 : ∀ w', Ext w2 w' → w'.cell? ⟨w.heap.size, 2, none⟩ = some (.int .i64 st) := fun w' he => p2 w' ((hx1.trans hx2).trans he)
    have hw2 := hxb.trans (hx1.trans hx2)
    clear hx1 hx2 hxb hA
    have e1 : IntKind.i64.wrap ((t : Int) + 1) = ((t + 1 : Nat) : Int) := by rw [IntKind.wrap_i64]; omega
    have b1 : (0 : Int) < ((t + 1 : Nat) : Int) := by omega
    have hn0 : ((n : Int) == 0) = false := by simp; omega
    (repeat (first | go_values | go_skip | go_guarded | go_step | go_upon))
    have P0 := Lib.hid p0
    have P1 := Lib.hid p1
    have P2 := Lib.hid p2
    clear p0 p1 p2 hpc0 hlc
    generalize w.heap.size = bx at *
    go_loopw [8] (fun i wr => ∃ k : Nat, 1 ≤ k ∧ k ≤ t + 1 ∧ i = .int .i64 k ∧ Ext w2 wr) (fun i _ => t + 1 - (intOf i).toNat)
    case atStart => exact ⟨1, by omega, by omega, rfl, Ext.refl _⟩
    case round =>
      obtain ⟨k, hk1, hk2, rfl, hex⟩ := hrel
      by_cases hlt : k ≤ t
      · have hs : placeS lift op st k = tickS lift op st (placeS lift op st (k - 1)) k := by
          obtain ⟨j, rfl⟩ : ∃ j, k = j + 1 := ⟨k - 1, by omega⟩
          rfl
        have ha := Hbd.out (k - 1)
        have hb := Hbd.out k
        have hca := Hpc.out (k - 1) (by omega)
        have hcb := Hpc.out k (by omega)
        have hj := Hmod.out (k - 1)
        have hcx := Hlc.out ((k - 1) % n) hj
        have hxb := Hx01.out ((k - 1) % n) hj
        have htc := Htc.out k (placeS lift op st (k - 1)) ha.1 ha.2
        rw [← hs] at htc
        clear hs
        have e2 : IntKind.i64.wrap ((k : Int) - 1) = ((k - 1 : Nat) : Int) := by rw [IntKind.wrap_i64]; omega
        obtain ⟨j, hjj⟩ : ∃ j, (k - 1) % n = j := ⟨_, rfl⟩
        have e3 : (((k - 1 : Nat) : Int)).tmod (n : Int) = (j : Int) := by
          rw [Int.tmod_eq_emod_of_nonneg (by omega), ← hjj]; exact (Int.natCast_emod _ _).symm
        have e3' : (((k - 1 : Nat) : Int)) % (n : Int) = (j : Int) := by
          rw [← hjj]; exact (Int.natCast_emod _ _).symm
        rw [hjj] at hj hcx hxb htc
        clear hjj
        generalize placeS lift op st (k - 1) = a at *
        generalize placeS lift op st k = b at *
        generalize getI lift j = x at *
        have hji : (j : Int) < (n : Int) := by omega
        have b2 : ((k - 1 : Nat) : Int) < ((t + 1 : Nat) : Int) := by omega
        have b3 : (k : Int) < ((t + 1 : Nat) : Int) := by omega
        have hca : ∀ w', Ext wr w' → w'.cell? (ad2.add (k - 1)) = some (.int .i64 a) := fun w' he => hca w' (hex.trans he)
        have hcb : ∀ w', Ext wr w' → w'.cell? (ad2.add k) = some (.int .i64 b) := fun w' he => hcb w' (hex.trans he)
        have hcx : ∀ w', Ext wr w' → w'.cell? (ad.add j) = some (.int .i64 x) := fun w' he => hcx w' (hw2.trans (hex.trans he))
        have p0 : ∀ w', Ext wr w' → _ := fun w' he => P0.out w' (hex.trans he)
        have p1 : ∀ w', Ext wr w' → _ := fun w' he => P1.out w' (hex.trans he)
        have p2 : ∀ w', Ext wr w' → _ := fun w' he => P2.out w' (hex.trans he)
        obtain ⟨y, hy⟩ : ∃ y, b - a = y := ⟨_, rfl⟩
        have e4 : IntKind.i64.wrap (b - a) = y := by rw [IntKind.wrap_i64]; omega
        obtain ⟨ha0, ha1⟩ := ha
        obtain ⟨hb0, hb1⟩ := hb
        clear hxb Hbd Hpc Hlc Hx01 Htc Hmod
        have nb1 : ¬ st < b := by omega
        have nb2 : ¬ b < 0 := by omega
        have nb3 : ¬ st < 0 := by omega
        rcases htc with ⟨h1, h2, h3⟩ | ⟨h1, h2, rfl, h3⟩ | ⟨h1, h2, h3⟩ | ⟨h1, h2, rfl, h3⟩
        all_goals
          rw [hy] at h2
          rw [h2] at hy e4
          clear h2
          (repeat (first | go_values | go_skip | go_guarded | go_step | go_upon))
          refine wp_region_calm 14 (fun _ _ _ _ => True) (fun _ _ _ _ _ _ h => h) (by kernel_rfl) (by kernel_rfl) ?_
          simp only [List.take_succ_cons, List.take_zero, List.drop_succ_cons, List.drop_zero]
          refine calm_quiet calm_mono_final 14 (by kernel_rfl) ?_
          simp only [List.take_succ_cons, List.take_zero, List.drop_succ_cons, List.drop_zero]
          repeat (go_big_quiet_step (fail))
          refine wpQuiet_nil ?_
          refine calm_nil fun w3 hx3 _ => ?_
          have hca : ∀ w', Ext w3 w' → _ := fun w' he => hca w' (hx3.trans he)
          have hcb : ∀ w', Ext w3 w' → _ := fun w' he => hcb w' (hx3.trans he)
          have p2 : ∀ w', Ext w3 w' → _ := fun w' he => p2 w' (hx3.trans he)
          have hex := hex.trans hx3
          (repeat (first | go_values | go_skip | go_guarded | go_step | go_upon))
          refine wp_region_calm 11 (fun _ _ _ _ => True) (fun _ _ _ _ _ _ h => h) (by kernel_rfl) (by kernel_rfl) ?_
          simp only [List.take_succ_cons, List.take_zero, List.drop_succ_cons, List.drop_zero]
          refine calm_quiet calm_mono_final 11 (by kernel_rfl) ?_
          simp only [List.take_succ_cons, List.take_zero, List.drop_succ_cons, List.drop_zero]
          repeat (go_big_quiet_step (fail))
          refine wpQuiet_nil ?_
          refine calm_nil fun w4 hx4 _ => ?_
          have hca : ∀ w', Ext w4 w' → _ := fun w' he => hca w' (hx4.trans he)
          have hcb : ∀ w', Ext w4 w' → _ := fun w' he => hcb w' (hx4.trans he)
          have p2 : ∀ w', Ext w4 w' → _ := fun w' he => p2 w' (hx4.trans he)
          have hex := hex.trans hx4
          (repeat (first | go_values | go_skip | go_guarded | go_step | go_upon))
          refine wp_region_calm 64 (fun _ _ _ _ => True) (fun _ _ _ _ _ _ h => h) (by kernel_rfl) (by kernel_rfl) ?_
          simp only [List.take_succ_cons, List.take_zero, List.drop_succ_cons, List.drop_zero]
          refine calm_quiet calm_mono_final 64 (by kernel_rfl) ?_
          simp only [List.take_succ_cons, List.take_zero, List.drop_succ_cons, List.drop_zero]
          repeat (go_big_quiet_step (fail))
          refine wpQuiet_nil ?_
          refine calm_nil fun w5 hx5 _ => ?_
          have hex := hex.trans hx5
          (repeat (first | go_values | go_skip | go_guarded | go_step | go_upon))
          go_roundw
          case rel => exact ⟨k + 1, by omega, by omega, by go_num, hex⟩
          case measure => simp [intOf]; omega
      · obtain rfl : k = t + 1 := by omega
        (repeat (first | go_values | go_skip | go_guarded | go_step | go_upon))
        go_ret
        exact ⟨rfl, hw2.trans hex⟩
  · have cp := fun (w' : World) (he : Ext w w') => places_bad A c lift op st ticks w' (hA.ext he) (by omega) hg
    have Cp := Lib.hid cp
    clear cp hg hA
    generalize lift.length = n at *
    go_enter Try.func9, Try.ntmps9
    have p0 : ∀ w', Ext (w.alloc (.cells #[.slice A n c, .int .i64 op, .int .i64 st] 24)) w' → w'.cell? ⟨w.heap.size, 0, none⟩ = some (.slice A n c) := fun w' he => he.cell (cells_last rfl rfl)
    have p1 : ∀ w', Ext (w.alloc (.cells #[.slice A n c, .int .i64 op, .int .i64 st] 24)) w' → w'.cell? ⟨w.heap.size, 1, none⟩ = some (.int .i64 op) := fun w' he => he.cell (cells_last rfl rfl)
    have p2 : ∀ w', Ext (w.alloc (.cells #[.slice A n c, .int .i64 op, .int .i64 st] 24)) w' → w'.cell? ⟨w.heap.size, 2, none⟩ = some (.int .i64 st) := fun w' he => he.cell (cells_last rfl rfl)
    have hxb : Ext w (w.alloc (.cells #[.slice A n c, .int .i64 op, .int .i64 st] 24)) := (Ext.refl w).alloc _
    (repeat (first
      | (go_at_call 43; refine (alive_any _).mono ?_; rintro e w1 ⟨rfl, hx1⟩; simp only [])
      | (go_at_call 14; refine (Cp.out _ (hxb.trans hx1)).mono ?_; rintro e w2 ⟨rfl, hx2⟩; simp only [])
      | go_values | go_skip | go_guarded | go_step | go_upon))
    go_ret
    exact ⟨rfl, hxb.trans (hx1.trans hx2)⟩
end Go.Proofs.Ytbclbcldplmppaa
