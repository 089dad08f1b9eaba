/- (a * b - c * d) / by in words of 128 bits. -/
import Derived.Test.YtebkhdhhajjhfaaGreatT06
import Derived.Shelf.Spec.BitsCarry
namespace Go.Proofs.YtebkhdhhajjhfaaGreat.Gr
open Go.RowKit

set_option maxRecDepth 100000 in
set_option maxHeartbeats 1000000 in
theorem div64_any (hi lo y : Nat) (w : World) (hy : hi < y) (hy2 : y < 18446744073709551616) (hlo : lo < 18446744073709551616) :
    Calls Tryz.prog 125 #[.int .u64 hi, .int .u64 lo, .int .u64 y] w fun e w' => ∃ w2, DivRes ((hi * 18446744073709551616 + lo) / y) w2 e w' ∧ Ext w w2 := by
  rcases Nat.eq_zero_or_pos hi with rfl | h0
  · have b1 : ((y : Int) == 0) = false := by simp; omega
    have b2 : decide ((y : Int) ≤ 0) = false := by simp; omega
    have b3 : ¬ ((y : Int) = 0) := by omega
    have hq : lo / y < 18446744073709551616 := by have := Nat.div_le_self lo y; omega
    have e1 : IntKind.u64.wrap ((lo : Int).tdiv (y : Int)) = ((lo / y : Nat) : Int) := by rw [Int.ofNat_tdiv]; exact wrapN_ _ hq
    have e2 : IntKind.u64.wrap ((lo : Int) / (y : Int)) = ((lo / y : Nat) : Int) := by rw [← Int.natCast_ediv]; exact wrapN_ _ hq
    rw [Nat.zero_mul, Nat.zero_add]
    generalize lo / y = N at *
    go_enter Tryz.func125, Tryz.ntmps125
    go_wp2
    go_quiet (fail)
    go_wp2
    go_ret2
    exact ⟨w.drewN nq, ⟨_, rfl, rfl⟩, by simp⟩
  · exact (div64_hi hi lo y w h0 hy hy2 hlo).mono fun e w' h => ⟨w, h, Ext.refl w⟩

theorem sub64_call (x y b : Nat) (hb : b ≤ 1) (w : World) :
    (callFunc 123 #[.int .u64 x, .int .u64 y, .int .u64 b]).run Tryz.prog w =
      .ok (.value (.tuple #[.int .u64 (((x + 18446744073709551616 - y - b) % 18446744073709551616 : Nat) : Int), .int .u64 ((if x < y + b then 1 else 0 : Nat) : Int)])) w := by
  rw [run_callFunc_extern Tryz.func123 (by kernel_rfl) (by kernel_rfl) (by kernel_rfl) (e := sub64Entry) (by kernel_rfl), run_sub64 x y b hb]
  simp only [Result.andThen]

theorem add64_call (x y c : Nat) (hc : c ≤ 1) (w : World) :
    (callFunc 124 #[.int .u64 x, .int .u64 y, .int .u64 c]).run Tryz.prog w =
      .ok (.value (.tuple #[.int .u64 (((x + y + c) % 18446744073709551616 : Nat) : Int), .int .u64 (((x + y + c) / 18446744073709551616 : Nat) : Int)])) w := by
  rw [run_callFunc_extern Tryz.func124 (by kernel_rfl) (by kernel_rfl) (by kernel_rfl) (e := add64Entry) (by kernel_rfl), run_add64 x y c (by omega) (by omega) (by omega) (by omega)]
  simp only [Result.andThen]
  rfl

theorem maxAbs (a : Int) : (if a < -a then -a else a) = (a.natAbs : Int) := by split <;> omega

set_option maxRecDepth 100000 in
set_option maxHeartbeats 1000000 in
theorem times_any (a b : Int) (w : World) (ha : a.natAbs < 4611686018427387904) (hb : b.natAbs < 4611686018427387904) :
    Calls Tryz.prog 122 #[.int .i64 a, .int .i64 b] w fun e w' =>
      e = .returned (.tuple #[.int .u64 (a.natAbs * b.natAbs / 18446744073709551616 : Nat), .int .u64 (a.natAbs * b.natAbs % 18446744073709551616 : Nat), .bool (decide (a < 0) != decide (b < 0))]) ∧ w = w' := by
  have cm := mul64_any a.natAbs b.natAbs (by omega) (by omega) w
  have e1 : IntKind.i64.wrap (-a) = -a := by rw [IntKind.wrap_i64]; omega
  have e2 : IntKind.i64.wrap (-b) = -b := by rw [IntKind.wrap_i64]; omega
  have e3 : IntKind.u64.wrap (a.natAbs : Int) = (a.natAbs : Int) := wrapN_ _ (by omega)
  have e4 : IntKind.u64.wrap (b.natAbs : Int) = (b.natAbs : Int) := wrapN_ _ (by omega)
  have m1 := maxAbs a
  have m2 := maxAbs b
  generalize a.natAbs * b.natAbs / 18446744073709551616 = h at *
  generalize a.natAbs * b.natAbs % 18446744073709551616 = l at *
  generalize a.natAbs = A at *
  generalize b.natAbs = B at *
  go_enter Tryz.func122, Tryz.ntmps122
  go_wp2_with (go_at_call 163; refine cm.mono ?_; rintro e w' ⟨rfl, rfl⟩)
  refine bodyPost_ret (by simp [results, Tryz.results122, go_sem]; try rfl) rfl ?_
  exact ⟨rfl, rfl⟩

/-! ### The plain arithmetic -/

theorem signed_mul (a b : Int) : a * b = if (decide (a < 0) != decide (b < 0)) = true then -((a.natAbs * b.natAbs : Nat) : Int) else ((a.natAbs * b.natAbs : Nat) : Int) := by
  rw [Int.natCast_mul]
  by_cases h1 : a < 0 <;> by_cases h2 : b < 0 <;> simp only [h1, h2, decide_true, decide_false, bne_self_eq_false, Bool.false_eq_true, if_false]
  · rw [show ((a.natAbs : Int)) = -a by omega, show ((b.natAbs : Int)) = -b by omega, Int.neg_mul_neg]
  · rw [show ((a.natAbs : Int)) = -a by omega, show ((b.natAbs : Int)) = b by omega]; simp [Int.neg_mul]
  · rw [show ((a.natAbs : Int)) = a by omega, show ((b.natAbs : Int)) = -b by omega]; simp [Int.mul_neg]
  · rw [show ((a.natAbs : Int)) = a by omega, show ((b.natAbs : Int)) = b by omega]

theorem signed_quo {y q V : Int} {U : Nat} {neg : Bool} (hy : y ≠ 0) (h : y * q = V) (hV : V = if neg = true then -(U : Int) else (U : Int)) :
    U / y.natAbs = q.natAbs ∧ U < y.natAbs * (q.natAbs + 1) ∧ (if (neg != decide (y < 0)) = true then -(q.natAbs : Int) else (q.natAbs : Int)) = q := by
  have hU : U = y.natAbs * q.natAbs := by
    rw [← Int.natAbs_mul, h, hV]
    cases neg <;> simp
  have hyp : 0 < y.natAbs := by omega
  refine ⟨by rw [hU]; exact Nat.mul_div_cancel_left _ hyp, by rw [hU, Nat.mul_add]; omega, ?_⟩
  by_cases hq : q = 0
  · subst hq; simp
  · have hs := signed_mul y q
    rw [h, hV, ← hU] at hs
    have hUp : 0 < U := by rw [hU]; exact Nat.mul_pos hyp (by omega)
    by_cases h1 : y < 0 <;> by_cases h2 : q < 0 <;> cases neg <;> simp [h1, h2] at hs ⊢ <;> omega

theorem sub_pair {h l i k : Nat} (hl : l < 18446744073709551616) (hk : k < 18446744073709551616) (hh : h < 18446744073709551616) (hle : i * 18446744073709551616 + k ≤ h * 18446744073709551616 + l) :
    ∃ L bo H bo2 : Nat, (∀ w, (callFunc 123 #[.int .u64 l, .int .u64 k, .int .u64 0]).run Tryz.prog w = .ok (.value (.tuple #[.int .u64 (L : Int), .int .u64 (bo : Int)])) w) ∧
      (∀ w, (callFunc 123 #[.int .u64 h, .int .u64 i, .int .u64 bo]).run Tryz.prog w = .ok (.value (.tuple #[.int .u64 (H : Int), .int .u64 (bo2 : Int)])) w) ∧
      H * 18446744073709551616 + L = h * 18446744073709551616 + l - (i * 18446744073709551616 + k) ∧ L < 18446744073709551616 := by
  refine ⟨_, _, _, _, fun w => sub64_call l k 0 (by omega) w, fun w => sub64_call h i _ (by split <;> omega) w, ?_, Nat.mod_lt _ (by omega)⟩
  split <;> omega
theorem add_pair {h l i k : Nat} (hl : l < 18446744073709551616) (hk : k < 18446744073709551616) (hh : h < 4611686018427387904) (hi : i < 4611686018427387904) :
    ∃ L bo H bo2 : Nat, (∀ w, (callFunc 124 #[.int .u64 l, .int .u64 k, .int .u64 0]).run Tryz.prog w = .ok (.value (.tuple #[.int .u64 (L : Int), .int .u64 (bo : Int)])) w) ∧
      (∀ w, (callFunc 124 #[.int .u64 h, .int .u64 i, .int .u64 bo]).run Tryz.prog w = .ok (.value (.tuple #[.int .u64 (H : Int), .int .u64 (bo2 : Int)])) w) ∧
      H * 18446744073709551616 + L = h * 18446744073709551616 + l + (i * 18446744073709551616 + k) ∧ L < 18446744073709551616 := by
  refine ⟨_, _, _, _, fun w => add64_call l k 0 (by omega) w, fun w => add64_call h i _ (by omega) w, ?_, Nat.mod_lt _ (by omega)⟩
  omega
end Go.Proofs.YtebkhdhhajjhfaaGreat.Gr
