/- math/bits: the product of two words, and the number of leading zeros. -/
import Derived.Test.YtebkhdhhajjhfaaGreatT05
namespace Go.Proofs.YtebkhdhhajjhfaaGreat.Gr
open Go.RowKit

theorem maskN_ (a : Nat) (ha : a < 18446744073709551616) : bits .and .u64 (a : Int) 4294967295 = ((a % 4294967296 : Nat) : Int) := by
  have h := bits_and_u64_nat a 4294967295 ha (by omega)
  have e : a &&& 4294967295 = a % 4294967296 := Nat.and_two_pow_sub_one_eq_mod a 32
  rw [e] at h
  exact h
theorem divN_ (a : Nat) : (a : Int) / 4294967296 = ((a / 4294967296 : Nat) : Int) := by omega
theorem mulN_ (a b : Nat) : (a : Int) * (b : Int) = ((a * b : Nat) : Int) := (Int.natCast_mul a b).symm
theorem addN_ (a b : Nat) : (a : Int) + (b : Int) = ((a + b : Nat) : Int) := (Int.natCast_add a b).symm
theorem wrapN_ (a : Nat) (ha : a < 18446744073709551616) : IntKind.u64.wrap (a : Int) = (a : Int) := by rw [IntKind.wrap_u64]; omega
theorem wrapM_ (a : Nat) : IntKind.u64.wrap (a : Int) = ((a % 18446744073709551616 : Nat) : Int) := by rw [IntKind.wrap_u64]; omega

set_option maxHeartbeats 1000000 in
theorem mul64_any (x y : Nat) (hx : x < 18446744073709551616) (hy : y < 18446744073709551616) (w : World) :
    Calls Tryz.prog 163 #[.int .u64 x, .int .u64 y] w fun e w' => e = .returned (.tuple #[.int .u64 ((x * y / 18446744073709551616 : Nat) : Int), .int .u64 ((x * y % 18446744073709551616 : Nat) : Int)]) ∧ w = w' := by
  obtain ⟨bd, bt, bw, hhi⟩ := Lib.mul64_hi x y hx hy
  have ba := Lib.half_mul_le (a := x / 4294967296) (b := y / 4294967296) (by omega) (by omega)
  have bb := Lib.half_mul_le (a := x / 4294967296) (b := y % 4294967296) (by omega) (by omega)
  have bc := Lib.half_mul_le (a := x % 4294967296) (b := y / 4294967296) (by omega) (by omega)
  have ba' : x / 4294967296 * (y / 4294967296) < 18446744073709551616 := by omega
  have bb' : x / 4294967296 * (y % 4294967296) < 18446744073709551616 := by omega
  have bc' : x % 4294967296 * (y / 4294967296) < 18446744073709551616 := by omega
  have bh1 : x / 4294967296 * (y / 4294967296) + (x / 4294967296 * (y % 4294967296) + x % 4294967296 * (y % 4294967296) / 4294967296) / 4294967296 < 18446744073709551616 := by omega
  have bh : x / 4294967296 * (y / 4294967296) + (x / 4294967296 * (y % 4294967296) + x % 4294967296 * (y % 4294967296) / 4294967296) / 4294967296 + ((x / 4294967296 * (y % 4294967296) + x % 4294967296 * (y % 4294967296) / 4294967296) % 4294967296 + x % 4294967296 * (y / 4294967296)) / 4294967296 < 18446744073709551616 := by omega
  go_enter Tryz.func163, Tryz.ntmps163
  go_wp2
  simp only [maskN_ x hx, maskN_ y hy, divN_, mulN_, addN_, wrapN_ _ bd, wrapN_ _ bb', wrapN_ _ bt, maskN_ _ bt, wrapN_ _ bc', wrapN_ _ bw, wrapN_ _ ba', wrapN_ _ bh1, wrapN_ _ bh, wrapM_ (x * y)]
  rw [hhi]
  go_ret2
  exact ⟨rfl, rfl⟩

theorem lead_any (x : Nat) (w : World) (hx : x < 18446744073709551616) (h1 : 1 ≤ x) :
    Calls Tryz.prog 164 #[.int .u64 x] w fun e w' => ∃ s : Nat, e = .returned (.int .i64 s) ∧ (s ≤ 63 ∧ 9223372036854775808 ≤ x * 2 ^ s ∧ x * 2 ^ s < 18446744073709551616) ∧ w = w' := by
  have cl := len64_any x w hx h1
  go_enter Tryz.func164, Tryz.ntmps164
  go_wp2_with (go_at_call 156; refine cl.mono ?_; rintro e w' ⟨L, rfl, hL, rfl⟩)
  go_ret
  obtain ⟨h2, h3, h4⟩ := hL
  have hL64 : L ≤ 64 := by
    rcases Nat.lt_or_ge 64 L with h | h
    · have := Nat.pow_le_pow_right (n := 2) (by omega) (show 64 ≤ L - 1 by omega)
      omega
    · exact h
  refine ⟨64 - L, ?_, ⟨by omega, ?_, ?_⟩, rfl⟩
  · refine congrArg (fun z => Ending.returned (Value.int .i64 z)) ?_
    first
      | (rw [IntKind.wrap_i64]; omega)
      | (unfold wrap64; omega)
  · have e : (9223372036854775808 : Nat) = 2 ^ (L - 1) * 2 ^ (64 - L) := by rw [← Nat.pow_add, show L - 1 + (64 - L) = 63 by omega]
    rw [e]
    exact Nat.mul_le_mul_right _ h3
  · have e : (18446744073709551616 : Nat) = 2 ^ L * 2 ^ (64 - L) := by rw [← Nat.pow_add, show L + (64 - L) = 64 by omega]
    rw [e]
    exact Nat.mul_lt_mul_of_pos_right h4 (Nat.two_pow_pos _)
end Go.Proofs.YtebkhdhhajjhfaaGreat.Gr

/- The arithmetic of a division of two words by one, digit by digit. Plain Lean. -/
namespace Go.Proofs.YtebkhdhhajjhfaaGreat.Gr
open Go.RowKit

/-- A digit that is too great by little, and what it leaves. -/
structure Dig (Y1 Y0 u u1 q r : Nat) : Prop where
  sum : q * Y1 + r = u
  up : u * 4294967296 + u1 < (q + 1) * (Y1 * 4294967296 + Y0)

section
variable {Y1 Y0 u u1 q r : Nat}
theorem mul_y (q Y1 Y0 : Nat) : q * (Y1 * 4294967296 + Y0) = q * Y1 * 4294967296 + q * Y0 := by rw [Nat.mul_add, Nat.mul_assoc]
theorem Dig.start (h1 : 1 ≤ Y1) (hu1 : u1 < 4294967296) : Dig Y1 Y0 u u1 (u / Y1) (u % Y1) := by
  have h := Nat.div_add_mod u Y1
  have hr := Nat.mod_lt u (show 0 < Y1 by omega)
  rw [Nat.mul_comm] at h
  refine ⟨h, ?_⟩
  rw [mul_y, Nat.add_mul, Nat.one_mul, Nat.add_mul, Nat.add_mul, Nat.one_mul]
  generalize u / Y1 * Y1 = a at *
  generalize u / Y1 * Y0 = b at *
  omega
theorem Dig.exit (h : Dig Y1 Y0 u u1 q r) (hb : q * Y0 ≤ 4294967296 * r + u1) : (u * 4294967296 + u1) / (Y1 * 4294967296 + Y0) = q := by
  obtain ⟨hs, hu⟩ := h
  refine Nat.div_eq_of_lt_le ?_ hu
  rw [mul_y]
  generalize q * Y1 = a at *
  generalize q * Y0 = b at *
  omega
theorem Dig.pos (hb : 4294967296 ≤ q ∨ 4294967296 * r + u1 < q * Y0) : 1 ≤ q := by
  rcases hb with h | h
  · omega
  · rcases Nat.eq_zero_or_pos q with e | e
    · subst e; omega
    · exact e
theorem Dig.dec (h : Dig Y1 Y0 u u1 q r) (hu : u < Y1 * 4294967296 + Y0) (hu1 : u1 < 4294967296) (hb : 4294967296 ≤ q ∨ 4294967296 * r + u1 < q * Y0) : Dig Y1 Y0 u u1 (q - 1) (r + Y1) := by
  have hp := Dig.pos hb
  obtain ⟨q', rfl⟩ : ∃ q', q = q' + 1 := ⟨q - 1, by omega⟩
  obtain ⟨hs, _⟩ := h
  simp only [Nat.add_sub_cancel]
  refine ⟨by rw [Nat.add_mul, Nat.one_mul] at hs; generalize q' * Y1 = a at *; omega, ?_⟩
  rcases hb with h | h
  · have := Nat.mul_le_mul_right (Y1 * 4294967296 + Y0) h
    omega
  · rw [mul_y]
    generalize (q' + 1) * Y1 = a at *
    generalize (q' + 1) * Y0 = b at *
    omega
theorem Dig.brk (h : Dig Y1 Y0 u u1 q r) (hu : u < Y1 * 4294967296 + Y0) (h0 : Y0 < 4294967296) (hr : 4294967296 ≤ r) : q < 4294967296 ∧ q * Y0 ≤ 4294967296 * r + u1 := by
  have hq : q < 4294967296 := by
    rcases Nat.lt_or_ge q 4294967296 with h1 | h1
    · exact h1
    · have := Nat.mul_le_mul_right Y1 h1
      obtain ⟨hs, _⟩ := h
      generalize q * Y1 = a at *
      omega
  refine ⟨hq, ?_⟩
  have h1 : q * Y0 ≤ 4294967296 * 4294967296 := Nat.mul_le_mul (by omega) (by omega)
  have h2 : 4294967296 * 4294967296 ≤ 4294967296 * r := Nat.mul_le_mul_left _ hr
  omega
theorem Dig.le (h : Dig Y1 Y0 u u1 q r) (hu : u < Y1 * 4294967296 + Y0) (h0 : Y0 < 4294967296) (h1 : 2147483648 ≤ Y1) : q ≤ 4294967297 := by
  rcases Nat.lt_or_ge 4294967297 q with h2 | h2
  · have := Nat.mul_le_mul_right Y1 h2
    obtain ⟨hs, _⟩ := h
    generalize q * Y1 = a at *
    omega
  · exact h2
end

/-- What the first digit leaves. -/
theorem div_second {U Y T1 q : Nat} (hU : U < Y) (hY : Y < 18446744073709551616) (_hT : T1 < 4294967296) (hq : (U * 4294967296 + T1) / Y = q) :
    ∃ U2 : Nat, IntKind.u64.wrap (IntKind.u64.wrap (IntKind.u64.wrap ((U : Int) * 4294967296) + (T1 : Int)) - IntKind.u64.wrap ((q : Int) * (Y : Int))) = (U2 : Int) ∧ U2 < Y ∧ q * Y + U2 = U * 4294967296 + T1 := by
  have h := Nat.div_add_mod (U * 4294967296 + T1) Y
  have hr := Nat.mod_lt (U * 4294967296 + T1) (show 0 < Y by omega)
  rw [hq, Nat.mul_comm] at h
  refine ⟨(U * 4294967296 + T1) % Y, ?_, hr, h⟩
  rw [mulN_]
  generalize (U * 4294967296 + T1) % Y = R at *
  generalize q * Y = P at *
  simp only [IntKind.wrap_u64]
  omega

/-- The two digits together. -/
theorem div_both {U Y T1 T0 q q0 U2 : Nat} (hU : U < Y) (hY : Y < 18446744073709551616) (hT : T1 < 4294967296) (hT0 : T0 < 4294967296) (h1 : q * Y + U2 = U * 4294967296 + T1) (h2 : U2 < Y) (hq0 : (U2 * 4294967296 + T0) / Y = q0) {N : Nat} (hN : N = (U * 18446744073709551616 + (T1 * 4294967296 + T0)) / Y) :
    IntKind.u64.wrap (IntKind.u64.wrap ((q : Int) * 4294967296) + (q0 : Int)) = (N : Int) := by
  have e : U * 18446744073709551616 + (T1 * 4294967296 + T0) = (U2 * 4294967296 + T0) + q * 4294967296 * Y := by
    rw [Nat.mul_right_comm]
    generalize q * Y = P at *
    omega
  rw [e, Nat.add_mul_div_right _ _ (by omega), hq0] at hN
  have hq : q < 4294967296 := by
    rcases Nat.lt_or_ge q 4294967296 with h | h
    · exact h
    · have := Nat.mul_le_mul_right Y h
      generalize q * Y = P at *
      omega
  have hq1 : q0 < 4294967296 := by
    rw [← hq0, Nat.div_lt_iff_lt_mul (by omega)]
    omega
  subst hN
  rw [IntKind.wrap_u64, IntKind.wrap_u64]
  omega

/-- The numbers of the division, as the words hold them. -/
theorem div_setup (hi lo y s : Nat) (hy : hi < y) (hlo : lo < 18446744073709551616) (hs : s ≤ 63) (hs2 : 9223372036854775808 ≤ y * 2 ^ s) (hs3 : y * 2 ^ s < 18446744073709551616) :
    ∃ Y Y1 Y0 U T T1 T0 : Nat, IntKind.u64.wrap ((y : Int) * 2 ^ s) = (Y : Int) ∧ (Y : Int) / 4294967296 = (Y1 : Int) ∧ bits .and .u64 (Y : Int) 4294967295 = (Y0 : Int) ∧
      bits .or .u64 (IntKind.u64.wrap ((hi : Int) * 2 ^ s)) ((lo : Int) / 2 ^ (64 - s)) = (U : Int) ∧ IntKind.u64.wrap ((lo : Int) * 2 ^ s) = (T : Int) ∧ (T : Int) / 4294967296 = (T1 : Int) ∧ bits .and .u64 (T : Int) 4294967295 = (T0 : Int) ∧
      Y = Y1 * 4294967296 + Y0 ∧ Y0 < 4294967296 ∧ 2147483648 ≤ Y1 ∧ Y1 < 4294967296 ∧ U < Y ∧ T1 < 4294967296 ∧ T0 < 4294967296 ∧
      (hi * 18446744073709551616 + lo) / y = (U * 18446744073709551616 + (T1 * 4294967296 + T0)) / Y := by
  have hp : 0 < 2 ^ s := Nat.two_pow_pos s
  have e64 : (18446744073709551616 : Nat) = 2 ^ (64 - s) * 2 ^ s := by rw [← Nat.pow_add, show 64 - s + s = 64 by omega]
  have hc : ∀ a : Nat, ((a : Int) * 2 ^ s) = ((a * 2 ^ s : Nat) : Int) := fun a => by rw [Int.natCast_mul, Int.natCast_pow]; rfl
  have hhi : (hi + 1) * 2 ^ s ≤ y * 2 ^ s := Nat.mul_le_mul_right _ hy
  rw [Nat.add_mul, Nat.one_mul] at hhi
  have hC : lo / 2 ^ (64 - s) < 2 ^ s := by
    rw [Nat.div_lt_iff_lt_mul (Nat.two_pow_pos _), Nat.mul_comm, ← e64]; exact hlo
  have hdiv : lo * 2 ^ s / 18446744073709551616 = lo / 2 ^ (64 - s) := by
    rw [e64]; exact Nat.mul_div_mul_right _ _ hp
  have hor : (hi * 2 ^ s) ||| (lo / 2 ^ (64 - s)) = hi * 2 ^ s + lo / 2 ^ (64 - s) := by
    have := Nat.shiftLeft_add_eq_or_of_lt hC hi
    rw [Nat.shiftLeft_eq] at this
    exact this.symm
  refine ⟨y * 2 ^ s, y * 2 ^ s / 4294967296, y * 2 ^ s % 4294967296, hi * 2 ^ s + lo / 2 ^ (64 - s), lo * 2 ^ s % 18446744073709551616, lo * 2 ^ s % 18446744073709551616 / 4294967296, lo * 2 ^ s % 18446744073709551616 % 4294967296, ?_, ?_, ?_, ?_, ?_, ?_, ?_, ?_, ?_, ?_, ?_, ?_, ?_, ?_, ?_⟩
  · rw [hc, wrapN_ _ hs3]
  · rw [divN_]
  · rw [maskN_ _ hs3]
  · have h1 : ((lo : Int) / 2 ^ (64 - s)) = ((lo / 2 ^ (64 - s) : Nat) : Int) := by
      rw [Int.natCast_ediv, Int.natCast_pow]; rfl
    rw [hc, wrapN_ _ (by omega), h1, ← hor]
    exact bits_or_u64_nat _ _ (by omega) (by omega)
  · rw [hc, wrapM_]
  · rw [divN_]
  · rw [maskN_ _ (Nat.mod_lt _ (by omega))]
  · omega
  · exact Nat.mod_lt _ (by omega)
  · omega
  · omega
  · omega
  · omega
  · exact Nat.mod_lt _ (by omega)
  · have e1 : (hi * 18446744073709551616 + lo) * 2 ^ s = (hi * 2 ^ s + lo / 2 ^ (64 - s)) * 18446744073709551616 + (lo * 2 ^ s % 18446744073709551616 / 4294967296 * 4294967296 + lo * 2 ^ s % 18446744073709551616 % 4294967296) := by
      rw [Nat.add_mul, Nat.mul_right_comm, ← hdiv]
      generalize hi * 2 ^ s = a
      generalize lo * 2 ^ s = b
      omega
    rw [← e1]
    exact (Nat.mul_div_mul_right _ _ hp).symm
end Go.Proofs.YtebkhdhhajjhfaaGreat.Gr

/- math/bits: the quotient of two words by one. -/
namespace Go.Proofs.YtebkhdhhajjhfaaGreat.Gr
open Go.RowKit

def DivRes (N : Nat) (w : World) (e : Ending) (w' : World) : Prop := ∃ r : Value, e = .returned (.tuple #[.int .u64 (N : Int), r]) ∧ w = w'

theorem div_first (U Y1 Y0 u1 : Nat) (h1 : 1 ≤ Y1) (h2 : Y1 < 4294967296) (hu1 : u1 < 4294967296) (hU : U < 18446744073709551616) :
    ∃ D P R : Nat, IntKind.u64.wrap ((U : Int).tdiv (Y1 : Int)) = (D : Int) ∧ IntKind.u64.wrap ((U : Int) / (Y1 : Int)) = (D : Int) ∧ IntKind.u64.wrap ((D : Int) * (Y1 : Int)) = (P : Int) ∧ IntKind.u64.wrap ((U : Int) - (P : Int)) = (R : Int) ∧
      (Dig Y1 Y0 U u1 D R ∧ R < 4294967296) := by
  have hd := Nat.div_le_self U Y1
  have h := Nat.div_add_mod U Y1
  rw [Nat.mul_comm] at h
  have hr := Nat.mod_lt U (show 0 < Y1 by omega)
  refine ⟨U / Y1, U / Y1 * Y1, U % Y1, ?_, ?_, ?_, ?_, Dig.start h1 hu1, by omega⟩
  · rw [Int.ofNat_tdiv]; exact wrapN_ _ (by omega)
  · rw [← Int.natCast_ediv]; exact wrapN_ _ (by omega)
  · rw [mulN_]; exact wrapN_ _ (by omega)
  · rw [IntKind.wrap_u64]; omega

set_option maxRecDepth 100000 in
set_option maxHeartbeats 4000000 in
theorem div64_hi (hi lo y : Nat) (w : World) (h0 : 1 ≤ hi) (hy : hi < y) (hy2 : y < 18446744073709551616) (hlo : lo < 18446744073709551616) :
    Calls Tryz.prog 125 #[.int .u64 hi, .int .u64 lo, .int .u64 y] w (DivRes ((hi * 18446744073709551616 + lo) / y) w) := by
  obtain ⟨N, hN⟩ : ∃ N, N = (hi * 18446744073709551616 + lo) / y := ⟨_, rfl⟩
  rw [← hN]
  have HN := Lib.hid hN
  clear hN
  have cl := lead_any y w hy2 (by omega)
  have b1 : ((y : Int) == 0) = false := by simp; omega
  have b2 : decide ((y : Int) ≤ (hi : Int)) = false := by simp; omega
  have b3 : ((hi : Int) == 0) = false := by simp; omega
  go_enter Tryz.func125, Tryz.ntmps125
  go_wp2_with (go_at_call 164; refine cl.mono ?_; rintro e w' ⟨s, rfl, ⟨hs1, hs2, hs3⟩, rfl⟩; obtain ⟨Y, Y1, Y0, U, T, T1, T0, f1, f2, f3, f4, f5, f6, f7, g1, g2, g3, g4, g5, g6, g7, gq⟩ := div_setup hi lo y s hy hlo hs1 hs2 hs3; have G1 := Lib.hid g1; have Gq := Lib.hid gq; clear g1 gq; obtain ⟨D, P, R, e1, e2, e3, e4, hdig⟩ := div_first U Y1 Y0 T1 (by omega) g4 g6 (by have := G1.out; omega); have Hdig := Lib.hid hdig; clear hdig; have e5 : ¬ ((Y1 : Int) = 0) := (by omega))
  clear f1 f2 f3 f4 f5 f6 f7 b1 b2 b3 e1 e2 e3 e4 e5 cl
  go_loop [15, 16] (fun a b => ∃ q r : Nat, a = .int .u64 q ∧ b = .int .u64 r ∧ r < 4294967296 ∧ q ≤ 4294967297 ∧ Dig Y1 Y0 U T1 q r) (fun a _ => (intOf a).toNat)
  case atStart => exact ⟨D, R, rfl, rfl, Hdig.out.2, Hdig.out.1.le (by have := G1.out; omega) g2 g3, Hdig.out.1⟩
  case round =>
    obtain ⟨q, r, rfl, rfl, hr, hq, hd⟩ := hrel
    have hUY : U < Y1 * 4294967296 + Y0 := by have := G1.out; omega
    by_cases hBq : 4294967296 ≤ q
    · have d1 : decide ((4294967296 : Int) ≤ (q : Int)) = true := by simp; omega
      have hdec := hd.dec hUY g6 (.inl hBq)
      have e1 : IntKind.u64.wrap ((q : Int) - 1) = ((q - 1 : Nat) : Int) := by rw [IntKind.wrap_u64]; omega
      have e2 : IntKind.u64.wrap ((r : Int) + (Y1 : Int)) = ((r + Y1 : Nat) : Int) := by rw [IntKind.wrap_u64]; omega
      have Hd := Lib.hid hdec
      clear hd hdec
      generalize hq1 : q - 1 = q1 at *
      generalize r + Y1 = r1 at *
      by_cases hr1 : 4294967296 ≤ r1
      · have d2 : decide ((4294967296 : Int) ≤ (r1 : Int)) = true := by simp; omega
        have hbk := Hd.out.brk hUY g2 hr1
        have hexit := Hd.out.exit hbk.2
        clear hbk
        have Hexit := Lib.hid hexit
        clear hexit
        have hY64 : Y < 18446744073709551616 := by have := G1.out; omega
        obtain ⟨U2, s1, s2, s3⟩ := div_second (q := q1) g5 hY64 g6 (by rw [G1.out]; exact Hexit.out)
        obtain ⟨D2, P5, R2, k1, k2, k3, k4, hdig2⟩ := div_first U2 Y1 Y0 T0 (by omega) g4 g7 (by omega)
        have Hdig2 := Lib.hid hdig2
        have S3 := Lib.hid s3
        have k5 : ¬ ((Y1 : Int) = 0) := by omega
        clear hdig2 s3
        go_wp2
        clear s1 k1 k2 k3 k4 k5
        clear d1 e1 e2 d2 Hd hBq
        go_loop [18, 16] (fun a b => ∃ x z : Nat, a = .int .u64 x ∧ b = .int .u64 z ∧ z < 4294967296 ∧ x ≤ 4294967297 ∧ Dig Y1 Y0 U2 T0 x z) (fun a _ => (intOf a).toNat)
        case atStart => exact ⟨D2, R2, rfl, rfl, Hdig2.out.2, Hdig2.out.1.le (by have := G1.out; omega) g2 g3, Hdig2.out.1⟩
        case round =>
          obtain ⟨x, z, rfl, rfl, hz, hx, hd⟩ := hrel
          have hUY2 : U2 < Y1 * 4294967296 + Y0 := by have := G1.out; omega
          by_cases hBx : 4294967296 ≤ x
          · have d1 : decide ((4294967296 : Int) ≤ (x : Int)) = true := by simp; omega
            have hdec := hd.dec hUY2 g7 (.inl hBx)
            have e1 : IntKind.u64.wrap ((x : Int) - 1) = ((x - 1 : Nat) : Int) := by rw [IntKind.wrap_u64]; omega
            have e2 : IntKind.u64.wrap ((z : Int) + (Y1 : Int)) = ((z + Y1 : Nat) : Int) := by rw [IntKind.wrap_u64]; omega
            have Hd := Lib.hid hdec
            clear hd hdec
            generalize hx1 : x - 1 = x1 at *
            generalize z + Y1 = z1 at *
            by_cases hz1 : 4294967296 ≤ z1
            · have d2 : decide ((4294967296 : Int) ≤ (z1 : Int)) = true := by simp; omega
              have hbk := Hd.out.brk hUY2 g2 hz1
              have hexit := Hd.out.exit hbk.2
              clear hbk
              have hfin := div_both (q0 := x1) g5 hY64 g6 g7 S3.out s2 (by rw [G1.out]; exact hexit) (HN.out.trans Gq.out)
              clear hexit
              go_wp2
              go_ret2
              exact ⟨_, rfl, rfl⟩
            · have d2 : decide ((4294967296 : Int) ≤ (z1 : Int)) = false := by simp; omega
              go_wp2
              go_round
              case rel => exact ⟨x1, z1, rfl, rfl, by omega, by omega, Hd.out⟩
              case measure => simp [intOf]; omega
          · have d1 : decide ((4294967296 : Int) ≤ (x : Int)) = false := by simp; omega
            have hP : x * Y0 < 18446744073709551616 := by
              have : x * Y0 ≤ 4294967295 * 4294967295 := Nat.mul_le_mul (by omega) (by omega)
              omega
            have e1 : IntKind.u64.wrap ((x : Int) * (Y0 : Int)) = ((x * Y0 : Nat) : Int) := by rw [mulN_]; exact wrapN_ _ hP
            have e2 : IntKind.u64.wrap ((4294967296 : Int) * (z : Int)) = ((4294967296 * z : Nat) : Int) := by rw [IntKind.wrap_u64]; omega
            have e3 : IntKind.u64.wrap (((4294967296 * z : Nat) : Int) + (T0 : Int)) = ((4294967296 * z + T0 : Nat) : Int) := by rw [IntKind.wrap_u64]; omega
            by_cases ht : 4294967296 * z + T0 < x * Y0
            · have hpos := Dig.pos (.inr ht)
              have hdec := hd.dec hUY2 g7 (.inr ht)
              have e4 : IntKind.u64.wrap ((x : Int) - 1) = ((x - 1 : Nat) : Int) := by rw [IntKind.wrap_u64]; omega
              have e5 : IntKind.u64.wrap ((z : Int) + (Y1 : Int)) = ((z + Y1 : Nat) : Int) := by rw [IntKind.wrap_u64]; omega
              have Hd := Lib.hid hdec
              clear hd hdec
              generalize hx1 : x - 1 = x1 at *
              generalize z + Y1 = z1 at *
              generalize x * Y0 = P2 at *
              generalize 4294967296 * z + T0 = P3 at *
              generalize 4294967296 * z = P4 at *
              by_cases hz1 : 4294967296 ≤ z1
              · have d2 : decide ((4294967296 : Int) ≤ (z1 : Int)) = true := by simp; omega
                have hbk := Hd.out.brk hUY2 g2 hz1
                have hexit := Hd.out.exit hbk.2
                clear hbk
                have hfin := div_both (q0 := x1) g5 hY64 g6 g7 S3.out s2 (by rw [G1.out]; exact hexit) (HN.out.trans Gq.out)
                clear hexit
                go_wp2
                go_ret2
                exact ⟨_, rfl, rfl⟩
              · have d2 : decide ((4294967296 : Int) ≤ (z1 : Int)) = false := by simp; omega
                go_wp2
                go_round
                case rel => exact ⟨x1, z1, rfl, rfl, by omega, by omega, Hd.out⟩
                case measure => simp [intOf]; omega
            · have hexit := hd.exit (by omega)
              clear hd
              generalize x * Y0 = P2 at *
              generalize 4294967296 * z + T0 = P3 at *
              generalize 4294967296 * z = P4 at *
              have hfin := div_both (q0 := x) g5 hY64 g6 g7 S3.out s2 (by rw [G1.out]; exact hexit) (HN.out.trans Gq.out)
              clear hexit
              go_wp2
              go_ret2
              exact ⟨_, rfl, rfl⟩
      · have d2 : decide ((4294967296 : Int) ≤ (r1 : Int)) = false := by simp; omega
        go_wp2
        go_round
        case rel => exact ⟨q1, r1, rfl, rfl, by omega, by omega, Hd.out⟩
        case measure => simp [intOf]; omega
    · have d1 : decide ((4294967296 : Int) ≤ (q : Int)) = false := by simp; omega
      have hP : q * Y0 < 18446744073709551616 := by
        have : q * Y0 ≤ 4294967295 * 4294967295 := Nat.mul_le_mul (by omega) (by omega)
        omega
      have e1 : IntKind.u64.wrap ((q : Int) * (Y0 : Int)) = ((q * Y0 : Nat) : Int) := by rw [mulN_]; exact wrapN_ _ hP
      have e2 : IntKind.u64.wrap ((4294967296 : Int) * (r : Int)) = ((4294967296 * r : Nat) : Int) := by rw [IntKind.wrap_u64]; omega
      have e3 : IntKind.u64.wrap (((4294967296 * r : Nat) : Int) + (T1 : Int)) = ((4294967296 * r + T1 : Nat) : Int) := by rw [IntKind.wrap_u64]; omega
      by_cases ht : 4294967296 * r + T1 < q * Y0
      · have hpos := Dig.pos (.inr ht)
        have hdec := hd.dec hUY g6 (.inr ht)
        have e4 : IntKind.u64.wrap ((q : Int) - 1) = ((q - 1 : Nat) : Int) := by rw [IntKind.wrap_u64]; omega
        have e5 : IntKind.u64.wrap ((r : Int) + (Y1 : Int)) = ((r + Y1 : Nat) : Int) := by rw [IntKind.wrap_u64]; omega
        have Hd := Lib.hid hdec
        clear hd hdec
        generalize hq1 : q - 1 = q1 at *
        generalize r + Y1 = r1 at *
        generalize q * Y0 = P2 at *
        generalize 4294967296 * r + T1 = P3 at *
        generalize 4294967296 * r = P4 at *
        by_cases hr1 : 4294967296 ≤ r1
        · have d2 : decide ((4294967296 : Int) ≤ (r1 : Int)) = true := by simp; omega
          have hbk := Hd.out.brk hUY g2 hr1
          have hexit := Hd.out.exit hbk.2
          clear hbk
          have Hexit := Lib.hid hexit
          clear hexit
          have hY64 : Y < 18446744073709551616 := by have := G1.out; omega
          obtain ⟨U2, s1, s2, s3⟩ := div_second (q := q1) g5 hY64 g6 (by rw [G1.out]; exact Hexit.out)
          obtain ⟨D2, P5, R2, k1, k2, k3, k4, hdig2⟩ := div_first U2 Y1 Y0 T0 (by omega) g4 g7 (by omega)
          have Hdig2 := Lib.hid hdig2
          have S3 := Lib.hid s3
          have k5 : ¬ ((Y1 : Int) = 0) := by omega
          clear hdig2 s3
          go_wp2
          clear s1 k1 k2 k3 k4 k5
          clear d1 e1 e2 e3 e4 e5 d2 ht Hd hpos hP hBq
          go_loop [18, 16] (fun a b => ∃ x z : Nat, a = .int .u64 x ∧ b = .int .u64 z ∧ z < 4294967296 ∧ x ≤ 4294967297 ∧ Dig Y1 Y0 U2 T0 x z) (fun a _ => (intOf a).toNat)
          case atStart => exact ⟨D2, R2, rfl, rfl, Hdig2.out.2, Hdig2.out.1.le (by have := G1.out; omega) g2 g3, Hdig2.out.1⟩
          case round =>
            obtain ⟨x, z, rfl, rfl, hz, hx, hd⟩ := hrel
            have hUY2 : U2 < Y1 * 4294967296 + Y0 := by have := G1.out; omega
            by_cases hBx : 4294967296 ≤ x
            · have d1 : decide ((4294967296 : Int) ≤ (x : Int)) = true := by simp; omega
              have hdec := hd.dec hUY2 g7 (.inl hBx)
              have e1 : IntKind.u64.wrap ((x : Int) - 1) = ((x - 1 : Nat) : Int) := by rw [IntKind.wrap_u64]; omega
              have e2 : IntKind.u64.wrap ((z : Int) + (Y1 : Int)) = ((z + Y1 : Nat) : Int) := by rw [IntKind.wrap_u64]; omega
              have Hd := Lib.hid hdec
              clear hd hdec
              generalize hx1 : x - 1 = x1 at *
              generalize z + Y1 = z1 at *
              by_cases hz1 : 4294967296 ≤ z1
              · have d2 : decide ((4294967296 : Int) ≤ (z1 : Int)) = true := by simp; omega
                have hbk := Hd.out.brk hUY2 g2 hz1
                have hexit := Hd.out.exit hbk.2
                clear hbk
                have hfin := div_both (q0 := x1) g5 hY64 g6 g7 S3.out s2 (by rw [G1.out]; exact hexit) (HN.out.trans Gq.out)
                clear hexit
                go_wp2
                go_ret2
                exact ⟨_, rfl, rfl⟩
              · have d2 : decide ((4294967296 : Int) ≤ (z1 : Int)) = false := by simp; omega
                go_wp2
                go_round
                case rel => exact ⟨x1, z1, rfl, rfl, by omega, by omega, Hd.out⟩
                case measure => simp [intOf]; omega
            · have d1 : decide ((4294967296 : Int) ≤ (x : Int)) = false := by simp; omega
              have hP : x * Y0 < 18446744073709551616 := by
                have : x * Y0 ≤ 4294967295 * 4294967295 := Nat.mul_le_mul (by omega) (by omega)
                omega
              have e1 : IntKind.u64.wrap ((x : Int) * (Y0 : Int)) = ((x * Y0 : Nat) : Int) := by rw [mulN_]; exact wrapN_ _ hP
              have e2 : IntKind.u64.wrap ((4294967296 : Int) * (z : Int)) = ((4294967296 * z : Nat) : Int) := by rw [IntKind.wrap_u64]; omega
              have e3 : IntKind.u64.wrap (((4294967296 * z : Nat) : Int) + (T0 : Int)) = ((4294967296 * z + T0 : Nat) : Int) := by rw [IntKind.wrap_u64]; omega
              by_cases ht : 4294967296 * z + T0 < x * Y0
              · have hpos := Dig.pos (.inr ht)
                have hdec := hd.dec hUY2 g7 (.inr ht)
                have e4 : IntKind.u64.wrap ((x : Int) - 1) = ((x - 1 : Nat) : Int) := by rw [IntKind.wrap_u64]; omega
                have e5 : IntKind.u64.wrap ((z : Int) + (Y1 : Int)) = ((z + Y1 : Nat) : Int) := by rw [IntKind.wrap_u64]; omega
                have Hd := Lib.hid hdec
                clear hd hdec
                generalize hx1 : x - 1 = x1 at *
                generalize z + Y1 = z1 at *
                generalize x * Y0 = P2 at *
                generalize 4294967296 * z + T0 = P3 at *
                generalize 4294967296 * z = P4 at *
                by_cases hz1 : 4294967296 ≤ z1
                · have d2 : decide ((4294967296 : Int) ≤ (z1 : Int)) = true := by simp; omega
                  have hbk := Hd.out.brk hUY2 g2 hz1
                  have hexit := Hd.out.exit hbk.2
                  clear hbk
                  have hfin := div_both (q0 := x1) g5 hY64 g6 g7 S3.out s2 (by rw [G1.out]; exact hexit) (HN.out.trans Gq.out)
                  clear hexit
                  go_wp2
                  go_ret2
                  exact ⟨_, rfl, rfl⟩
                · have d2 : decide ((4294967296 : Int) ≤ (z1 : Int)) = false := by simp; omega
                  go_wp2
                  go_round
                  case rel => exact ⟨x1, z1, rfl, rfl, by omega, by omega, Hd.out⟩
                  case measure => simp [intOf]; omega
              · have hexit := hd.exit (by omega)
                clear hd
                generalize x * Y0 = P2 at *
                generalize 4294967296 * z + T0 = P3 at *
                generalize 4294967296 * z = P4 at *
                have hfin := div_both (q0 := x) g5 hY64 g6 g7 S3.out s2 (by rw [G1.out]; exact hexit) (HN.out.trans Gq.out)
                clear hexit
                go_wp2
                go_ret2
                exact ⟨_, rfl, rfl⟩
        · have d2 : decide ((4294967296 : Int) ≤ (r1 : Int)) = false := by simp; omega
          go_wp2
          go_round
          case rel => exact ⟨q1, r1, rfl, rfl, by omega, by omega, Hd.out⟩
          case measure => simp [intOf]; omega
      · have hexit := hd.exit (by omega)
        clear hd
        generalize q * Y0 = P2 at *
        generalize 4294967296 * r + T1 = P3 at *
        generalize 4294967296 * r = P4 at *
        have Hexit := Lib.hid hexit
        clear hexit
        have hY64 : Y < 18446744073709551616 := by have := G1.out; omega
        obtain ⟨U2, s1, s2, s3⟩ := div_second (q := q) g5 hY64 g6 (by rw [G1.out]; exact Hexit.out)
        obtain ⟨D2, P5, R2, k1, k2, k3, k4, hdig2⟩ := div_first U2 Y1 Y0 T0 (by omega) g4 g7 (by omega)
        have Hdig2 := Lib.hid hdig2
        have S3 := Lib.hid s3
        have k5 : ¬ ((Y1 : Int) = 0) := by omega
        clear hdig2 s3
        go_wp2
        clear s1 k1 k2 k3 k4 k5
        clear d1 e1 e2 e3 ht hP hBq
        go_loop [18, 16] (fun a b => ∃ x z : Nat, a = .int .u64 x ∧ b = .int .u64 z ∧ z < 4294967296 ∧ x ≤ 4294967297 ∧ Dig Y1 Y0 U2 T0 x z) (fun a _ => (intOf a).toNat)
        case atStart => exact ⟨D2, R2, rfl, rfl, Hdig2.out.2, Hdig2.out.1.le (by have := G1.out; omega) g2 g3, Hdig2.out.1⟩
        case round =>
          obtain ⟨x, z, rfl, rfl, hz, hx, hd⟩ := hrel
          have hUY2 : U2 < Y1 * 4294967296 + Y0 := by have := G1.out; omega
          by_cases hBx : 4294967296 ≤ x
          · have d1 : decide ((4294967296 : Int) ≤ (x : Int)) = true := by simp; omega
            have hdec := hd.dec hUY2 g7 (.inl hBx)
            have e1 : IntKind.u64.wrap ((x : Int) - 1) = ((x - 1 : Nat) : Int) := by rw [IntKind.wrap_u64]; omega
            have e2 : IntKind.u64.wrap ((z : Int) + (Y1 : Int)) = ((z + Y1 : Nat) : Int) := by rw [IntKind.wrap_u64]; omega
            have Hd := Lib.hid hdec
            clear hd hdec
            generalize hx1 : x - 1 = x1 at *
            generalize z + Y1 = z1 at *
            by_cases hz1 : 4294967296 ≤ z1
            · have d2 : decide ((4294967296 : Int) ≤ (z1 : Int)) = true := by simp; omega
              have hbk := Hd.out.brk hUY2 g2 hz1
              have hexit := Hd.out.exit hbk.2
              clear hbk
              have hfin := div_both (q0 := x1) g5 hY64 g6 g7 S3.out s2 (by rw [G1.out]; exact hexit) (HN.out.trans Gq.out)
              clear hexit
              go_wp2
              go_ret2
              exact ⟨_, rfl, rfl⟩
            · have d2 : decide ((4294967296 : Int) ≤ (z1 : Int)) = false := by simp; omega
              go_wp2
              go_round
              case rel => exact ⟨x1, z1, rfl, rfl, by omega, by omega, Hd.out⟩
              case measure => simp [intOf]; omega
          · have d1 : decide ((4294967296 : Int) ≤ (x : Int)) = false := by simp; omega
            have hP : x * Y0 < 18446744073709551616 := by
              have : x * Y0 ≤ 4294967295 * 4294967295 := Nat.mul_le_mul (by omega) (by omega)
              omega
            have e1 : IntKind.u64.wrap ((x : Int) * (Y0 : Int)) = ((x * Y0 : Nat) : Int) := by rw [mulN_]; exact wrapN_ _ hP
            have e2 : IntKind.u64.wrap ((4294967296 : Int) * (z : Int)) = ((4294967296 * z : Nat) : Int) := by rw [IntKind.wrap_u64]; omega
            have e3 : IntKind.u64.wrap (((4294967296 * z : Nat) : Int) + (T0 : Int)) = ((4294967296 * z + T0 : Nat) : Int) := by rw [IntKind.wrap_u64]; omega
            by_cases ht : 4294967296 * z + T0 < x * Y0
            · have hpos := Dig.pos (.inr ht)
              have hdec := hd.dec hUY2 g7 (.inr ht)
              have e4 : IntKind.u64.wrap ((x : Int) - 1) = ((x - 1 : Nat) : Int) := by rw [IntKind.wrap_u64]; omega
              have e5 : IntKind.u64.wrap ((z : Int) + (Y1 : Int)) = ((z + Y1 : Nat) : Int) := by rw [IntKind.wrap_u64]; omega
              have Hd := Lib.hid hdec
              clear hd hdec
              generalize hx1 : x - 1 = x1 at *
              generalize z + Y1 = z1 at *
              generalize x * Y0 = P2 at *
              generalize 4294967296 * z + T0 = P3 at *
              generalize 4294967296 * z = P4 at *
              by_cases hz1 : 4294967296 ≤ z1
              · have d2 : decide ((4294967296 : Int) ≤ (z1 : Int)) = true := by simp; omega
                have hbk := Hd.out.brk hUY2 g2 hz1
                have hexit := Hd.out.exit hbk.2
                clear hbk
                have hfin := div_both (q0 := x1) g5 hY64 g6 g7 S3.out s2 (by rw [G1.out]; exact hexit) (HN.out.trans Gq.out)
                clear hexit
                go_wp2
                go_ret2
                exact ⟨_, rfl, rfl⟩
              · have d2 : decide ((4294967296 : Int) ≤ (z1 : Int)) = false := by simp; omega
                go_wp2
                go_round
                case rel => exact ⟨x1, z1, rfl, rfl, by omega, by omega, Hd.out⟩
                case measure => simp [intOf]; omega
            · have hexit := hd.exit (by omega)
              clear hd
              generalize x * Y0 = P2 at *
              generalize 4294967296 * z + T0 = P3 at *
              generalize 4294967296 * z = P4 at *
              have hfin := div_both (q0 := x) g5 hY64 g6 g7 S3.out s2 (by rw [G1.out]; exact hexit) (HN.out.trans Gq.out)
              clear hexit
              go_wp2
              go_ret2
              exact ⟨_, rfl, rfl⟩
end Go.Proofs.YtebkhdhhajjhfaaGreat.Gr
