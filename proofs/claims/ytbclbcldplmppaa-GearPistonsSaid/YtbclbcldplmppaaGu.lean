/- Pistons, fifth text: the reference's Places; the greatest common divisor; slices of pistons. -/
import Derived.Test.YtbclbcldplmppaaGt
namespace Go.Proofs.Ytbclbcldplmppaa
open Go.RowKit

set_option maxHeartbeats 400000 in
theorem places_ref_bad (A : Option Addr) (c : Nat) (lift : List Int) (op st : Int) (ticks : Int) (w : World) (hA : Ints w A lift) (hn2 : lift.length ≤ 100000) (hbad : ¬ (vpB lift op st = true ∧ 0 ≤ ticks ∧ ticks ≤ 10000)) :
    Calls Try.prog 15 #[.agg #[.slice A lift.length c, .int .i64 op, .int .i64 st], .int .i64 ticks] w fun e w' => e = .returned (.tuple #[.slice none 0 0, .int .i64 2]) ∧ Ext w w' := by
  have c1 := fun (w' : World) (he : Ext w w') => valid_piston A c lift op st w' (hA.ext he) hn2
  have C1 := Lib.hid c1
  clear c1
  cases hv : vpB lift op st
  · generalize lift.length = n at *
    rw [hv] at C1
    go_enter Try.func15, Try.ntmps15
    go_wp2_with (go_at_call 53; refine (C1.out _ (by simp)).mono ?_; rintro e w' ⟨rfl, h1⟩)
    go_ret2
    exact ⟨rfl, Ext.trans (by simp) h1⟩
  · have hw : withinB ticks 0 10000 = false := withinB_false.2 fun h => hbad ⟨hv, h.1, h.2⟩
    clear hbad
    generalize lift.length = n at *
    rw [hv] at C1
    clear hv
    go_enter Try.func15, Try.ntmps15
    go_wp2_with (first
      | (go_at_call 53; refine (C1.out _ (by simp)).mono ?_; rintro e w' ⟨rfl, h1⟩)
      | (go_at_call 54; refine (within_any _ _ _ _).mono ?_; rintro e w' ⟨rfl, rfl⟩))
    go_ret2
    exact ⟨rfl, Ext.trans (by simp) h1⟩

set_option maxHeartbeats 400000 in
theorem places_ref_good (A : Option Addr) (c : Nat) (lift : List Int) (op st : Int) (ticks : Nat) (w : World) (hA : Ints w A lift) (hn2 : lift.length ≤ 100000) (hv : vpB lift op st = true) (ht : ticks ≤ 10000) :
    Calls Try.prog 15 #[.agg #[.slice A lift.length c, .int .i64 op, .int .i64 st], .int .i64 ticks] w fun e w' => ∃ v, e = .returned (.tuple #[v, .int .i64 0]) ∧ OwnI w w' v (placesL lift op st (ticks + 1)) := by
  have c1 := fun (w' : World) (he : Ext w w') => valid_piston A c lift op st w' (hA.ext he) hn2
  have c2 := fun (w' : World) (he : Ext w w') => moved_any A c lift op st ticks w' (hA.ext he) hn2 hv (by omega)
  rw [hv] at c1
  have C1 := Lib.hid c1
  have C2 := Lib.hid c2
  have hw : withinB ticks 0 10000 = true := withinB_true.2 ⟨by omega, by omega⟩
  clear c1 c2 hv
  generalize lift.length = n at *
  have hp0 : ∀ (w1 : World), Ext (w.alloc (.cells #[.slice A n c, .int .i64 op, .int .i64 st] 24)) w1 → w1.cell? ⟨w.heap.size, 0, none⟩ = some (.slice A n c) := fun w' he => he.cell (by simp)
  have hp1 : ∀ (w1 : World), Ext (w.alloc (.cells #[.slice A n c, .int .i64 op, .int .i64 st] 24)) w1 → w1.cell? ⟨w.heap.size, 1, none⟩ = some (.int .i64 op) := fun w' he => he.cell (by simp)
  have hp2 : ∀ (w1 : World), Ext (w.alloc (.cells #[.slice A n c, .int .i64 op, .int .i64 st] 24)) w1 → w1.cell? ⟨w.heap.size, 2, none⟩ = some (.int .i64 st) := fun w' he => he.cell (by simp)
  go_enter Try.func15, Try.ntmps15
  go_wp2_with (first
    | (go_at_call 53; refine (C1.out _ (by simp)).mono ?_; rintro e w1 ⟨rfl, h1⟩)
    | (go_at_call 54; refine (within_any _ _ _ _).mono ?_; rintro e w' ⟨rfl, rfl⟩)
    | (go_at_call 55; refine (C2.out _ (Ext.trans (by simp) h1)).mono ?_; rintro e w2 ⟨v, rfl, hown⟩))
  go_ret2
  exact ⟨_, rfl, hown.since (Ext.trans (by simp) h1)⟩

/-! ### The greatest common divisor -/

def dvS (a b : Int) : Int := (if b < 0 then -1 else 1) * (Int.gcd a b : Int)

theorem gcd_tmod (x y : Int) : Int.gcd y (x.tmod y) = Int.gcd x y := by
  show Nat.gcd y.natAbs (x.tmod y).natAbs = Nat.gcd x.natAbs y.natAbs
  rw [Int.natAbs_tmod, Nat.gcd_comm x.natAbs y.natAbs, Nat.gcd_comm, ← Nat.gcd_rec]

set_option maxHeartbeats 400000 in
theorem divisor_any (a b : Int) (w : World) (hb1 : -9223372036854775807 ≤ b) (hb2 : b ≤ 9223372036854775807) (ha : b = 0 → -9223372036854775807 ≤ a ∧ a ≤ 9223372036854775807) :
    Calls Try.prog 58 #[.int .i64 a, .int .i64 b] w fun e w' => e = .returned (.int .i64 (dvS a b)) ∧ Ext w w' := by
  have hfin : ∀ x s : Int, (Int.gcd x 0 = Int.gcd a b) → s = (if b < 0 then -1 else 1) → s * max x (-x) = dvS a b := fun x s h1 h2 => by
    unfold dvS
    rw [← h1, h2]
    congr 1
    simp [Int.gcd]
    omega
  have Hfin := Lib.hid hfin
  clear hfin
  have a1 : b = 0 → -9223372036854775807 ≤ a := fun h => (ha h).1
  have a2 : b = 0 → a ≤ 9223372036854775807 := fun h => (ha h).2
  have A1 := Lib.hid a1
  have A2 := Lib.hid a2
  clear ha a1 a2
  go_enter Try.func58, Try.ntmps58
  go_wp2
  all_goals
    go_loopw [0, 1] (fun u v wr => ∃ x y : Int, u = .int .i64 x ∧ v = .int .i64 y ∧ Ext w wr ∧ Int.gcd x y = Int.gcd a b ∧ -9223372036854775807 ≤ y ∧ y ≤ 9223372036854775807 ∧ (y = 0 → -9223372036854775807 ≤ x) ∧ (y = 0 → x ≤ 9223372036854775807)) (fun _ v _ => (intOf v).natAbs)
    case atStart => exact ⟨a, b, rfl, rfl, Ext.refl _, rfl, hb1, hb2, A1.out, A2.out⟩
    case round =>
      obtain ⟨x, y, rfl, rfl, hex, hg, h1, h2, h3, h4⟩ := hrel
      have Hg := Lib.hid hg
      have H3 := Lib.hid h3
      have H4 := Lib.hid h4
      clear hg h3 h4
      by_cases hy : y = 0
      · subst hy
        have h3 := H3.out rfl
        have h4 := H4.out rfl
        go_wp2
        all_goals go_ret
        all_goals refine ⟨ret_i ?_, hex⟩
        all_goals first
          | (rw [← Hfin.out x 1 Hg.out (by rw [if_neg (by omega)])]; omega)
          | (rw [← Hfin.out x (-1) Hg.out (by rw [if_pos (by omega)])]; omega)
      · have hy' : (y == 0) = false := beq_eq_false_iff_ne.2 hy
        have hy2 : (y != 0) = true := by rw [bne_iff_ne]; exact hy
        have hab : (x.tmod y).natAbs < y.natAbs := by rw [Int.natAbs_tmod]; exact Nat.mod_lt _ (by omega)
        have hg2 := gcd_tmod x y
        have Hg2 := Lib.hid hg2
        clear hg2
        go_wp2
        go_quiet (fail)
        go_wp2
        go_roundw
        case rel => exact ⟨y, x.tmod y, rfl, rfl, hex.trans (by simp), Hg2.out.trans Hg.out, by omega, by omega, fun _ => by omega, fun _ => by omega⟩
        case measure => simp [intOf]; exact Nat.mod_lt _ (by omega)
end Go.Proofs.Ytbclbcldplmppaa
