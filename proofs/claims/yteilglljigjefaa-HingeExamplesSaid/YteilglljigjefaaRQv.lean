/- HingeExamples: the walk. -/
import Derived.Test.YteilglljigjefaaRQu
import Derived.Test.YteilglljigjefaaR30
namespace Go.Proofs.Yteilglljigjefaa
open Go.RowKit Go.Maps
theorem K3 : Keyed Try.prog 3 := int_keyed Try.underlying3
theorem eq_three (a b c : Int) (w : World) : (Op.equalIn 10000 92 (.agg #[.int .i64 a, .int .i64 b, .int .i64 c]) (.agg #[.int .i64 a, .int .i64 b, .int .i64 c])).run Try.prog w = .ok true w := by
  have u3 := Try.underlying3
  have a3 := Try.isAgg3
  have z3 := Try.sizeOf3
  rw [show (10000 : Nat) = 9999 + 1 from rfl, Op.equalIn]
  simp only [Sem.run_bind, run_underlying Try.underlying92, Result.andThen_ok]
  simp only [Std.Legacy.Range.forIn_eq_forIn_range', Std.Legacy.Range.size, Nat.sub_zero, Nat.add_sub_cancel, Nat.div_one, List.range'_succ, List.range'_zero, List.forIn_cons, List.forIn_nil]
  go_simp
theorem lim_each {k : Nat} (hk : k < 19) : 0 ≤ getI (swR twL (twH 0) 0) k ∧ getI (swR twL (twH 0) 0) k < 36 ∧ (trn (getI (swR twL (twH 0) 0) k).toNat).2.1 ≤ 0 := by
  obtain ⟨_, h2, _, _, _, h6⟩ := lim_sw
  have hk' : k < (swR twL (twH 0) 0).length := by omega
  have e : getI (swR twL (twH 0) 0) k = (swR twL (twH 0) 0)[k] := by simp [getI, hk']
  rw [e]
  exact h6 _ (List.getElem_mem hk')
theorem one_lk {w1 w : World} {g : Nat} (h : OwnS w1 w (.slice (some ⟨g, 0, none⟩) 4 4) sqL) : Lk (w.alloc (.cells #[.slice (some ⟨g, 0, none⟩) 4 4] 40)) (some ⟨w.heap.size, 0, none⟩) [sqL] none [] := by
  have kb : Blk (w.alloc (.cells #[.slice (some ⟨g, 0, none⟩) 4 4] 40)) w.heap.size [.slice (some ⟨g, 0, none⟩) 4 4] := Blk.new _ _
  refine ⟨fun k hk => ?_, HRow.nil _ _, by simp, by simp, fun k hk => ?_⟩
  · have hk0 : k = 0 := by simp at hk; exact hk
    subst hk0
    refine ⟨⟨w.heap.size, 0, none⟩, some ⟨g, 0, none⟩, 4, rfl, fun w' he => ?_, h.row.ext ((Ext.refl _).alloc _)⟩
    rw [add_zero']
    exact kb.at_ 0 rfl w' he
  · have hk0 : k = 0 := by simp at hk; exact hk
    subst hk0
    decide
theorem lim_far (w : World) : Calls Try.prog 23 #[.int .i64 36] w fun e w' => ∃ a b c, e = .returned (.tuple #[.int .i64 a, .int .i64 b, .int .i64 c, .int .i64 2]) ∧ Ext w w' := by
  have e2 : angE 36 = 2 := by decide
  have h := angle_any 36 w
  unfold angV at h
  rw [e2] at h
  exact h.mono fun e w' ⟨he, hx⟩ => ⟨_, _, _, he, hx⟩
theorem lim_angle {x : Int} {c : Int × Int × Int} (h0 : 0 ≤ x) (h1 : x < 36) (h2 : trn x.toNat = c) (w : World) : Calls Try.prog 23 #[.int .i64 x] w fun e w' => e = .returned (.tuple #[.int .i64 c.1, .int .i64 c.2.1, .int .i64 c.2.2, .int .i64 0]) ∧ Ext w w' := by
  have e1 : angS x = c := by simp [angS, h0, h1, h2]
  have e2 : angE x = 0 := by simp [angE, h0, h1]
  have h := angle_any x w
  unfold angV at h
  rw [e1, e2] at h
  exact h
set_option maxRecDepth 100000 in
set_option maxHeartbeats 8000000 in
theorem limits_law (w : World) : Calls Try.prog 14 #[] w fun e w' => e = .returned (.bool true) ∧ Ext w w' := by
  have hmm := @run_makeMap Try.prog
  have hk : ∀ x : Int, (Lit.int .i64 x).wf = true → keyOf Try.prog 3 (.int .i64 x) = some (.int .i64 x) := fun x h => keyOf_int_mk Try.underlying3 h
  have Hk := Lib.hid hk
  have hb0 := Ext.refl w
  clear hk
  go_enter Try.func14, Try.ntmps14
  go_wp2_with (first
    | (go_at_call 46; refine (alive_any _).mono ?_; rintro e w1 ⟨rfl, hx1⟩; have hb1 := hb0.trans hx1; have hm0 := World.ownsMap_made w1 Try.prog 3 R3; have hbm0 := hb1.trans ((Ext.refl w1).alloc (.map #[] 0)); clear hb0 hx1; obtain ⟨w2, e2, hm1, hg2⟩ := hm0.update K3 Try.underlying93 (by unfold maxLen; omega) (Hk.out 0 (by decide)) (val := .agg #[.int .i64 (-1), .int .i64 0, .int .i64 1]) rfl; have hbm1 := hbm0.grown hg2 (fun j hj => by cases hj; exact hb1.size); clear hm0 hg2 hbm0; obtain ⟨w3, e3, hm2, hg3⟩ := hm1.update K3 Try.underlying93 (by unfold maxLen; omega) (Hk.out 3 (by decide)) (val := .agg #[.int .i64 1, .int .i64 0, .int .i64 1]) rfl; have hbm2 := hbm1.grown hg3 (fun j hj => by cases hj; exact hb1.size); clear hm1 hg3 hbm1; obtain ⟨w4, e4, hm3, hg4⟩ := hm2.update K3 Try.underlying93 (by unfold maxLen; omega) (Hk.out 4 (by decide)) (val := .agg #[.int .i64 (-4), .int .i64 (-3), .int .i64 5]) rfl; have hbm3 := hbm2.grown hg4 (fun j hj => by cases hj; exact hb1.size); clear hm2 hg4 hbm2; obtain ⟨w5, e5, hm4, hg5⟩ := hm3.update K3 Try.underlying93 (by unfold maxLen; omega) (Hk.out 35 (by decide)) (val := .agg #[.int .i64 24, .int .i64 7, .int .i64 25]) rfl; have hbm4 := hbm3.grown hg5 (fun j hj => by cases hj; exact hb1.size); clear hm3 hg5 hbm3)
    | (at_range; refine wpList_range_own _ rfl _ 93 rfl 3 92 K3 Try.underlying93 R3 w1.heap.size 4 M4 rfl hm4 ?_; intro w6 hr6 hg6 hs6; have Hle := Lib.hid hbm4.size; have hbm6 := hbm4.grown hg6 (fun j hj => by cases hj); clear hm4 hg6 hbm4)
    | go_in)
  have Hr6 := Lib.hid hr6
  have Hx6 := Lib.hid hbm6
  clear hr6 hs6 hbm6 hb1
  go_frame
  go_loopw [36] (fun _ wr => ∃ (left : Lit → Bool) (cnt : Nat), wr.ranges Try.prog 3 R3 w1.heap.size w5.heap.size 4 M4 left cnt ∧ Ext w wr) (fun _ wr => wr.rangeLeft w1.heap.size w5.heap.size)
  case atStart => exact ⟨_, _, Hr6.out, Hx6.out⟩
  case round =>
    obtain ⟨left, cnt, hrg, hxr⟩ := hrel
    have Hxr := Lib.hid hxr
    clear hxr
    go_wp2_with (first
      | (at_next; refine wpList_next_ranges _ rfl _ rfl 3 K3 R3 (fun x : Int => .int .i64 x) (fun c : Int × Int × Int => .agg #[.int .i64 c.1, .int .i64 c.2.1, .int .i64 c.2.2]) (fun key kl h => by obtain ⟨x, h, _⟩ := keyOf_int_inv Try.underlying3 h; exact ⟨x, h⟩) R3_inv w1.heap.size w5.heap.size 4 M4 _ _ rfl hrg ?_ ?_)
      | go_in)
    · intro _ _
      have b0 := Hxr.out
      clear hrg Hxr Hr6 Hx6 Hle
      go_wp2_with (first
        | (go_at_call 42; refine (lim_clashC A15 B15 w15 hL15).mono ?_; rintro e w16 ⟨rfl, hx⟩; have b16 := b15.trans hx; have hI16 := hI15.ext hx; clear b15 hx hI15 hL15)
        | (go_at_call 48; have hq := b14; clear hq; refine (two_link 3 w14).mono ?_; rintro e w15 ⟨A15, B15, rfl, hL15, hx⟩; have b15 := b14.trans hx; have hI15 := hI14.ext hx; clear b14 hx hI14)
        | (go_at_call 19; have hq := b13; clear hq; refine (lim_noneC _ _ hL13).mono ?_; rintro e w14 ⟨Y14, y14, rfl, hx⟩; have b14 := b13.trans hx; have hI14 := hI13.ext hx; clear b13 hx hI13 hL13)
        | (go_at_call 49; have hq := b12; clear hq; refine (square_any w12).mono ?_; rintro e w13 ⟨g13, rfl, ho⟩; have hx := ho.ext.trans ((Ext.refl w13).alloc (.cells #[.slice (some ⟨g13, 0, none⟩) 4 4] 40)); have b13 := b12.trans hx; have hI13 := hI12.ext hx; have hL13 := one_lk ho; clear b12 hx hI12 ho)
        | (go_at_call 19; have hq := b11; clear hq; refine (lim_openC _ _ hL11).mono ?_; rintro e w12 ⟨v12, rfl, hx⟩; have b12 := b11.trans hx; have hI12 := hI11.ext hx; clear b11 hx hI11 hL11)
        | (go_at_call 49; have hq := b10; clear hq; refine (square_any w10).mono ?_; rintro e w11 ⟨g11, rfl, ho⟩; have hx := ho.ext.trans ((Ext.refl w11).alloc (.cells #[.slice (some ⟨g11, 0, none⟩) 4 4] 40)); have b11 := b10.trans hx; have hI11 := hI10.ext hx; have hL11 := one_lk ho; clear b10 hx hI10 ho)
        | (go_at_call 37; refine (lim_swC A9 B9 w9 hL9).mono ?_; rintro e w10 ⟨X10, x10, rfl, hI10, hx⟩; have b10 := b9.trans hx; clear b9 hx hL9)
        | (go_at_call 48; have hq := b8; clear hq; refine (two_link 0 w8).mono ?_; rintro e w9 ⟨A9, B9, rfl, hL9, hx⟩; have b9 := b8.trans hx; clear b8 hx)
        | (go_at_call 23; refine (lim_far _).mono ?_; rintro e w8 ⟨fa, fb, fc, rfl, hx⟩; have b8 := b0.trans hx; clear b0 hx))
      obtain ⟨ad, rfl, hc⟩ := hI16.some_ (by have := lim_sw.2.1; omega)
      rw [lim_sw.2.1] at hc
      have Hc := Lib.hid hc
      have B16 := Lib.hid b16
      clear hc hI16 b16
      generalize hW : w16.alloc _ = W
      have hW0 : Ext w16 W := by rw [← hW]; exact (Ext.refl _).alloc _
      clear hW
      go_loopw [94] (fun i wr2 => ∃ k : Nat, k ≤ 19 ∧ i = .int .i64 k ∧ Ext w16 wr2) (fun i _ => 19 - (intOf i).toNat)
      case atStart => exact ⟨0, by omega, rfl, hW0⟩
      case round =>
        clear hW0
        obtain ⟨k, hk, rfl, hx2⟩ := hrel
        by_cases hlt : k < 19
        · obtain ⟨n0, n36, nq⟩ := lim_each hlt
          have ck := fun w' he => Hc.out k hlt w' (hx2.trans he)
          obtain ⟨nn, hnn⟩ : ∃ nn, nn = getI (swR twL (twH 0) 0) k := ⟨_, rfl⟩
          rw [← hnn] at n0 n36 nq ck
          obtain ⟨c, hcE⟩ : ∃ c, c = trn nn.toNat := ⟨_, rfl⟩
          have Hang := Lib.hid (fun w' => lim_angle n0 n36 hcE.symm w')
          rw [← hcE] at nq
          obtain ⟨p, q, r⟩ := c
          have hq : ¬ (0 : Int) < q := by simp only at nq; omega
          have hki : (k : Int) < 19 := by omega
          clear hnn hcE n0 n36 nq
          go_wp2_with (first
            | (go_at_call 23; refine (Hang.out _).mono ?_; rintro e w20 ⟨rfl, hx20⟩; have h20 := hx2.trans hx20; clear hx20))
          go_roundw
          case rel => exact ⟨k + 1, by omega, by go_num, h20⟩
          case measure => simp [intOf]; omega
        · have hki : ¬ (k : Int) < 19 := by omega
          obtain ⟨e0, e1, e2⟩ : getI (swR twL (twH 0) 0) 0 = 0 ∧ getI (swR twL (twH 0) 0) 1 = 1 ∧ getI (swR twL (twH 0) 0) 2 = 3 := by
            obtain ⟨_, _, h0, h1, h2, _⟩ := lim_sw
            simp only [getI, h0, h1, h2]
            exact ⟨rfl, rfl, rfl⟩
          have c0 := fun w' he => Hc.out 0 (by omega) w' (hx2.trans he)
          have c1 := fun w' he => Hc.out 1 (by omega) w' (hx2.trans he)
          have c2 := fun w' he => Hc.out 2 (by omega) w' (hx2.trans he)
          rw [e0, add_zero_] at c0
          rw [e1, add_lit _ _ (by decide)] at c1
          rw [e2, add_lit _ _ (by decide)] at c2
          have HX2 := Lib.hid hx2
          have d0 := Ext.refl wr
          clear hx2 hlt hk e0 e1 e2 Hc
          go_wp2_with (first
            | (go_at_call 25; have hq := d5; clear hq; refine (lim_panelC _ _ _ (row_heap (Whole.new (by simp)).h)).mono ?_; rintro e w36 ⟨rfl, hx⟩; have d6 := d5.trans (((Ext.refl _).alloc _).trans hx); clear d5 hx)
            | (go_at_call 30; have hq := d4; clear hq; refine (lim_checkC _).mono ?_; rintro e w35 ⟨rfl, hx⟩; have d5 := d4.trans hx; clear d4 hx)
            | (go_at_call 44; have hq := d3; clear hq; refine (lim_apC (by decide) lim_apart9 _ _ _ hL33).mono ?_; rintro e w34 ⟨rfl, hx⟩; have d4 := d3.trans hx; clear d3 hx hL33)
            | (go_at_call 48; have hq := d2; clear hq; refine (two_link 9 _).mono ?_; rintro e w33 ⟨A33, B33, rfl, hL33, hx⟩; have d3 := d2.trans hx; clear d2 hx)
            | (go_at_call 44; have hq := d1; clear hq; refine (lim_apC (by decide) lim_apart3 _ _ _ hL31).mono ?_; rintro e w32 ⟨rfl, hx⟩; have d2 := d1.trans hx; clear d1 hx hL31)
            | (go_at_call 48; have hq := d0; clear hq; refine (two_link 3 _).mono ?_; rintro e w31 ⟨A31, B31, rfl, hL31, hx⟩; have d1 := d0.trans hx; clear d0 hx))
          all_goals (go_ret; exact ⟨rfl, B16.out.trans (HX2.out.trans d6)⟩)
    · intro x p q r kl y yp w7 cnt7 hkey hlx hR hat hrg7 hlt hg7 hs7 hen
      obtain ⟨hx0, hx36, hxc⟩ : 0 ≤ x ∧ x < 36 ∧ trn x.toNat = (p, q, r) := by
        obtain ⟨x', h1, rfl, _⟩ := keyOf_int_inv Try.underlying3 hkey
        cases h1
        refine M4_in fun zd => ?_
        rw [hat zd]
        cases hR
        rfl
      have hang := fun w' => lim_angle hx0 hx36 hxc w'
      have Hang := Lib.hid hang
      have heq := fun w' => eq_three p q r w'
      have hx7 := Hxr.out.grown hg7 (fun j hj => by cases hj; exact Hle.out)
      have Hrg7 := Lib.hid hrg7
      have Hx7 := Lib.hid hx7
      have Hrg := Lib.hid hrg
      have Hlt := Lib.hid hlt
      clear hkey hlx hR hat hrg7 hlt hg7 hs7 hx0 hx36 hxc hang hx7 hrg Hr6 Hx6
      have kt : Blk (w7.alloc (.cells #[.int .i64 p, .int .i64 q, .int .i64 r] 92)) w7.heap.size [.int .i64 p, .int .i64 q, .int .i64 r] := Blk.new _ _
      have t0 := kt.at_ 0 rfl
      have t1 := kt.at_ 1 rfl
      have t2 := kt.at_ 2 rfl
      clear kt
      go_wp2_with (first
        | (go_at_call 23; refine (Hang.out _).mono ?_; rintro e w8 ⟨rfl, hx8⟩; have hb8 := hx8)
        | go_in)
      go_roundw
      case rel => exact ⟨_, _, Hrg7.out.kept ((((Ext.refl _).alloc _).trans hb8).grownBy' none) (by simp) (by simp), Hx7.out.trans (((Ext.refl _).alloc _).trans hb8)⟩
      case measure => rw [(Hrg7.out.kept ((((Ext.refl _).alloc _).trans hb8).grownBy' none) (by simp) (by simp)).left_eq, Hrg.out.left_eq]; exact Hlt.out
end Go.Proofs.Yteilglljigjefaa
