/- math/bits: the quotient of two words by one. -/
import Derived.Shelf.Spec.BitsCarry
import Derived.Maps.OwnSet
import Derived.WalkMore
import Derived.BigRegion
import Derived.Lib.SliceRun
import Derived.Test.YtbclbcldplmppaaMt06
namespace Go.Proofs.Ytbclbcldplmppaa
open Go.RowKit

def DivRes (N : Nat) (w : World) (e : Ending) (w' : World) : Prop := ∃ r : Value, e = .returned (.tuple #[.int .u64 (N : Int), r]) ∧ w = w'

theorem div_first (U Y1 Y0 u1 : Nat) (h1 : 1 ≤ Y1) (h2 : Y1 < 4294967296) (hu1 : u1 < 4294967296) (hU : U < 18446744073709551616) :
    ∃ D P R : Nat, IntKind.u64.wrap ((U : Int).tdiv (Y1 : Int)) = (D : Int) ∧ IntKind.u64.wrap ((U : Int) / (Y1 : Int)) = (D : Int) ∧ IntKind.u64.wrap ((D : Int) * (Y1 : Int)) = (P : Int) ∧ IntKind.u64.wrap ((U : Int) - (P : Int)) = (R : Int) ∧
      (Dig Y1 Y0 U u1 D R ∧ R < 4294967296) := by
  have hd := Nat.div_le_self U Y1
  have h := Nat.div_add_mod U Y1
  rw [Nat.mul_comm] at h
  have hr := Nat.mod_lt U (show 0 < Y1 by omega)
  refine ⟨U / Y1, U / Y1 * Y1, U % Y1, ?_, ?_, ?_, ?_, Dig.start h1 hu1, by omega⟩
  · rw [Int.ofNat_tdiv]; exact wrapN_ _ (by omega)
  · rw [← Int.natCast_ediv]; exact wrapN_ _ (by omega)
  · rw [mulN_]; exact wrapN_ _ (by omega)
  · rw [IntKind.wrap_u64]; omega

set_option maxRecDepth 100000 in
set_option maxHeartbeats 4000000 in
theorem div64_hi (hi lo y : Nat) (w : World) (h0 : 1 ≤ hi) (hy : hi < y) (hy2 : y < 18446744073709551616) (hlo : lo < 18446744073709551616) :
    Calls Try.prog 109 #[.int .u64 hi, .int .u64 lo, .int .u64 y] w (DivRes ((hi * 18446744073709551616 + lo) / y) w) := by
  obtain ⟨N, hN⟩ : ∃ N, N = (hi * 18446744073709551616 + lo) / y := ⟨_, rfl⟩
  rw [← hN]
  have HN := Lib.hid hN
  clear hN
  have cl := lead_any y w hy2 (by omega)
  have b1 : ((y : Int) == 0) = false := by simp; omega
  have b2 : decide ((y : Int) ≤ (hi : Int)) = false := by simp; omega
  have b3 : ((hi : Int) == 0) = false := by simp; omega
  go_enter Try.func109, Try.ntmps109
  go_wp2_with (go_at_call 114; refine cl.mono ?_; rintro e w' ⟨s, rfl, ⟨hs1, hs2, hs3⟩, rfl⟩; obtain ⟨Y, Y1, Y0, U, T, T1, T0, f1, f2, f3, f4, f5, f6, f7, g1, g2, g3, g4, g5, g6, g7, gq⟩ := div_setup hi lo y s hy hlo hs1 hs2 hs3; have G1 := Lib.hid g1; have Gq := Lib.hid gq; clear g1 gq; obtain ⟨D, P, R, e1, e2, e3, e4, hdig⟩ := div_first U Y1 Y0 T1 (by omega) g4 g6 (by have := G1.out; omega); have Hdig := Lib.hid hdig; clear hdig; have e5 : ¬ ((Y1 : Int) = 0) := (by omega))
  clear f1 f2 f3 f4 f5 f6 f7 b1 b2 b3 e1 e2 e3 e4 e5 cl
  go_loop [15, 16] (fun a b => ∃ q r : Nat, a = .int .u64 q ∧ b = .int .u64 r ∧ r < 4294967296 ∧ q ≤ 4294967297 ∧ Dig Y1 Y0 U T1 q r) (fun a _ => (intOf a).toNat)
  case atStart => exact ⟨D, R, rfl, rfl, Hdig.out.2, Hdig.out.1.le (by have := G1.out; omega) g2 g3, Hdig.out.1⟩
  case round =>
    obtain ⟨q, r, rfl, rfl, hr, hq, hd⟩ := hrel
    have hUY : U < Y1 * 4294967296 + Y0 := by have := G1.out; omega
    by_cases hBq : 4294967296 ≤ q
    · have d1 : decide ((4294967296 : Int) ≤ (q : Int)) = true := by simp; omega
      have hdec := hd.dec hUY g6 (.inl hBq)
      have e1 : IntKind.u64.wrap ((q : Int) - 1) = ((q - 1 : Nat) : Int) := by rw [IntKind.wrap_u64]; omega
      have e2 : IntKind.u64.wrap ((r : Int) + (Y1 : Int)) = ((r + Y1 : Nat) : Int) := by rw [IntKind.wrap_u64]; omega
      have Hd := Lib.hid hdec
      clear hd hdec
      generalize hq1 : q - 1 = q1 at *
      generalize r + Y1 = r1 at *
      by_cases hr1 : 4294967296 ≤ r1
      · have d2 : decide ((4294967296 : Int) ≤ (r1 : Int)) = true := by simp; omega
        have hbk := Hd.out.brk hUY g2 hr1
        have hexit := Hd.out.exit hbk.2
        clear hbk
        have Hexit := Lib.hid hexit
        clear hexit
        have hY64 : Y < 18446744073709551616 := by have := G1.out; omega
        obtain ⟨U2, s1, s2, s3⟩ := div_second (q := q1) g5 hY64 g6 (by rw [G1.out]; exact Hexit.out)
        obtain ⟨D2, P5, R2, k1, k2, k3, k4, hdig2⟩ := div_first U2 Y1 Y0 T0 (by omega) g4 g7 (by omega)
        have Hdig2 := Lib.hid hdig2
        have S3 := Lib.hid s3
        have k5 : ¬ ((Y1 : Int) = 0) := by omega
        clear hdig2 s3
        go_wp2
        clear s1 k1 k2 k3 k4 k5
        clear d1 e1 e2 d2 Hd hBq
        go_loop [18, 16] (fun a b => ∃ x z : Nat, a = .int .u64 x ∧ b = .int .u64 z ∧ z < 4294967296 ∧ x ≤ 4294967297 ∧ Dig Y1 Y0 U2 T0 x z) (fun a _ => (intOf a).toNat)
        case atStart => exact ⟨D2, R2, rfl, rfl, Hdig2.out.2, Hdig2.out.1.le (by have := G1.out; omega) g2 g3, Hdig2.out.1⟩
        case round =>
          obtain ⟨x, z, rfl, rfl, hz, hx, hd⟩ := hrel
          have hUY2 : U2 < Y1 * 4294967296 + Y0 := by have := G1.out; omega
          by_cases hBx : 4294967296 ≤ x
          · have d1 : decide ((4294967296 : Int) ≤ (x : Int)) = true := by simp; omega
            have hdec := hd.dec hUY2 g7 (.inl hBx)
            have e1 : IntKind.u64.wrap ((x : Int) - 1) = ((x - 1 : Nat) : Int) := by rw [IntKind.wrap_u64]; omega
            have e2 : IntKind.u64.wrap ((z : Int) + (Y1 : Int)) = ((z + Y1 : Nat) : Int) := by rw [IntKind.wrap_u64]; omega
            have Hd := Lib.hid hdec
            clear hd hdec
            generalize hx1 : x - 1 = x1 at *
            generalize z + Y1 = z1 at *
            by_cases hz1 : 4294967296 ≤ z1
            · have d2 : decide ((4294967296 : Int) ≤ (z1 : Int)) = true := by simp; omega
              have hbk := Hd.out.brk hUY2 g2 hz1
              have hexit := Hd.out.exit hbk.2
              clear hbk
              have hfin := div_both (q0 := x1) g5 hY64 g6 g7 S3.out s2 (by rw [G1.out]; exact hexit) (HN.out.trans Gq.out)
              clear hexit
              go_wp2
              go_ret2
              exact ⟨_, rfl, rfl⟩
            · have d2 : decide ((4294967296 : Int) ≤ (z1 : Int)) = false := by simp; omega
              go_wp2
              go_round
              case rel => exact ⟨x1, z1, rfl, rfl, by omega, by omega, Hd.out⟩
              case measure => simp [intOf]; omega
          · have d1 : decide ((4294967296 : Int) ≤ (x : Int)) = false := by simp; omega
            have hP : x * Y0 < 18446744073709551616 := by
              have : x * Y0 ≤ 4294967295 * 4294967295 := Nat.mul_le_mul (by omega) (by omega)
              omega
            have e1 : IntKind.u64.wrap ((x : Int) * (Y0 : Int)) = ((x * Y0 : Nat) : Int) := by rw [mulN_]; exact wrapN_ _ hP
            have e2 : IntKind.u64.wrap ((4294967296 : Int) * (z : Int)) = ((4294967296 * z : Nat) : Int) := by rw [IntKind.wrap_u64]; omega
            have e3 : IntKind.u64.wrap (((4294967296 * z : Nat) : Int) + (T0 : Int)) = ((4294967296 * z + T0 : Nat) : Int) := by rw [IntKind.wrap_u64]; omega
            by_cases ht : 4294967296 * z + T0 < x * Y0
            · have hpos := Dig.pos (.inr ht)
              have hdec := hd.dec hUY2 g7 (.inr ht)
              have e4 : IntKind.u64.wrap ((x : Int) - 1) = ((x - 1 : Nat) : Int) := by rw [IntKind.wrap_u64]; omega
              have e5 : IntKind.u64.wrap ((z : Int) + (Y1 : Int)) = ((z + Y1 : Nat) : Int) := by rw [IntKind.wrap_u64]; omega
              have Hd := Lib.hid hdec
              clear hd hdec
              generalize hx1 : x - 1 = x1 at *
              generalize z + Y1 = z1 at *
              generalize x * Y0 = P2 at *
              generalize 4294967296 * z + T0 = P3 at *
              generalize 4294967296 * z = P4 at *
              by_cases hz1 : 4294967296 ≤ z1
              · have d2 : decide ((4294967296 : Int) ≤ (z1 : Int)) = true := by simp; omega
                have hbk := Hd.out.brk hUY2 g2 hz1
                have hexit := Hd.out.exit hbk.2
                clear hbk
                have hfin := div_both (q0 := x1) g5 hY64 g6 g7 S3.out s2 (by rw [G1.out]; exact hexit) (HN.out.trans Gq.out)
                clear hexit
                go_wp2
                go_ret2
                exact ⟨_, rfl, rfl⟩
              · have d2 : decide ((4294967296 : Int) ≤ (z1 : Int)) = false := by simp; omega
                go_wp2
                go_round
                case rel => exact ⟨x1, z1, rfl, rfl, by omega, by omega, Hd.out⟩
                case measure => simp [intOf]; omega
            · have hexit := hd.exit (by omega)
              clear hd
              generalize x * Y0 = P2 at *
              generalize 4294967296 * z + T0 = P3 at *
              generalize 4294967296 * z = P4 at *
              have hfin := div_both (q0 := x) g5 hY64 g6 g7 S3.out s2 (by rw [G1.out]; exact hexit) (HN.out.trans Gq.out)
              clear hexit
              go_wp2
              go_ret2
              exact ⟨_, rfl, rfl⟩
      · have d2 : decide ((4294967296 : Int) ≤ (r1 : Int)) = false := by simp; omega
        go_wp2
        go_round
        case rel => exact ⟨q1, r1, rfl, rfl, by omega, by omega, Hd.out⟩
        case measure => simp [intOf]; omega
    · have d1 : decide ((4294967296 : Int) ≤ (q : Int)) = false := by simp; omega
      have hP : q * Y0 < 18446744073709551616 := by
        have : q * Y0 ≤ 4294967295 * 4294967295 := Nat.mul_le_mul (by omega) (by omega)
        omega
      have e1 : IntKind.u64.wrap ((q : Int) * (Y0 : Int)) = ((q * Y0 : Nat) : Int) := by rw [mulN_]; exact wrapN_ _ hP
      have e2 : IntKind.u64.wrap ((4294967296 : Int) * (r : Int)) = ((4294967296 * r : Nat) : Int) := by rw [IntKind.wrap_u64]; omega
      have e3 : IntKind.u64.wrap (((4294967296 * r : Nat) : Int) + (T1 : Int)) = ((4294967296 * r + T1 : Nat) : Int) := by rw [IntKind.wrap_u64]; omega
      by_cases ht : 4294967296 * r + T1 < q * Y0
      · have hpos := Dig.pos (.inr ht)
        have hdec := hd.dec hUY g6 (.inr ht)
        have e4 : IntKind.u64.wrap ((q : Int) - 1) = ((q - 1 : Nat) : Int) := by rw [IntKind.wrap_u64]; omega
        have e5 : IntKind.u64.wrap ((r : Int) + (Y1 : Int)) = ((r + Y1 : Nat) : Int) := by rw [IntKind.wrap_u64]; omega
        have Hd := Lib.hid hdec
        clear hd hdec
        generalize hq1 : q - 1 = q1 at *
        generalize r + Y1 = r1 at *
        generalize q * Y0 = P2 at *
        generalize 4294967296 * r + T1 = P3 at *
        generalize 4294967296 * r = P4 at *
        by_cases hr1 : 4294967296 ≤ r1
        · have d2 : decide ((4294967296 : Int) ≤ (r1 : Int)) = true := by simp; omega
          have hbk := Hd.out.brk hUY g2 hr1
          have hexit := Hd.out.exit hbk.2
          clear hbk
          have Hexit := Lib.hid hexit
          clear hexit
          have hY64 : Y < 18446744073709551616 := by have := G1.out; omega
          obtain ⟨U2, s1, s2, s3⟩ := div_second (q := q1) g5 hY64 g6 (by rw [G1.out]; exact Hexit.out)
          obtain ⟨D2, P5, R2, k1, k2, k3, k4, hdig2⟩ := div_first U2 Y1 Y0 T0 (by omega) g4 g7 (by omega)
          have Hdig2 := Lib.hid hdig2
          have S3 := Lib.hid s3
          have k5 : ¬ ((Y1 : Int) = 0) := by omega
          clear hdig2 s3
          go_wp2
          clear s1 k1 k2 k3 k4 k5
          clear d1 e1 e2 e3 e4 e5 d2 ht Hd hpos hP hBq
          go_loop [18, 16] (fun a b => ∃ x z : Nat, a = .int .u64 x ∧ b = .int .u64 z ∧ z < 4294967296 ∧ x ≤ 4294967297 ∧ Dig Y1 Y0 U2 T0 x z) (fun a _ => (intOf a).toNat)
          case atStart => exact ⟨D2, R2, rfl, rfl, Hdig2.out.2, Hdig2.out.1.le (by have := G1.out; omega) g2 g3, Hdig2.out.1⟩
          case round =>
            obtain ⟨x, z, rfl, rfl, hz, hx, hd⟩ := hrel
            have hUY2 : U2 < Y1 * 4294967296 + Y0 := by have := G1.out; omega
            by_cases hBx : 4294967296 ≤ x
            · have d1 : decide ((4294967296 : Int) ≤ (x : Int)) = true := by simp; omega
              have hdec := hd.dec hUY2 g7 (.inl hBx)
              have e1 : IntKind.u64.wrap ((x : Int) - 1) = ((x - 1 : Nat) : Int) := by rw [IntKind.wrap_u64]; omega
              have e2 : IntKind.u64.wrap ((z : Int) + (Y1 : Int)) = ((z + Y1 : Nat) : Int) := by rw [IntKind.wrap_u64]; omega
              have Hd := Lib.hid hdec
              clear hd hdec
              generalize hx1 : x - 1 = x1 at *
              generalize z + Y1 = z1 at *
              by_cases hz1 : 4294967296 ≤ z1
              · have d2 : decide ((4294967296 : Int) ≤ (z1 : Int)) = true := by simp; omega
                have hbk := Hd.out.brk hUY2 g2 hz1
                have hexit := Hd.out.exit hbk.2
                clear hbk
                have hfin := div_both (q0 := x1) g5 hY64 g6 g7 S3.out s2 (by rw [G1.out]; exact hexit) (HN.out.trans Gq.out)
                clear hexit
                go_wp2
                go_ret2
                exact ⟨_, rfl, rfl⟩
              · have d2 : decide ((4294967296 : Int) ≤ (z1 : Int)) = false := by simp; omega
                go_wp2
                go_round
                case rel => exact ⟨x1, z1, rfl, rfl, by omega, by omega, Hd.out⟩
                case measure => simp [intOf]; omega
            · have d1 : decide ((4294967296 : Int) ≤ (x : Int)) = false := by simp; omega
              have hP : x * Y0 < 18446744073709551616 := by
                have : x * Y0 ≤ 4294967295 * 4294967295 := Nat.mul_le_mul (by omega) (by omega)
                omega
              have e1 : IntKind.u64.wrap ((x : Int) * (Y0 : Int)) = ((x * Y0 : Nat) : Int) := by rw [mulN_]; exact wrapN_ _ hP
              have e2 : IntKind.u64.wrap ((4294967296 : Int) * (z : Int)) = ((4294967296 * z : Nat) : Int) := by rw [IntKind.wrap_u64]; omega
              have e3 : IntKind.u64.wrap (((4294967296 * z : Nat) : Int) + (T0 : Int)) = ((4294967296 * z + T0 : Nat) : Int) := by rw [IntKind.wrap_u64]; omega
              by_cases ht : 4294967296 * z + T0 < x * Y0
              · have hpos := Dig.pos (.inr ht)
                have hdec := hd.dec hUY2 g7 (.inr ht)
                have e4 : IntKind.u64.wrap ((x : Int) - 1) = ((x - 1 : Nat) : Int) := by rw [IntKind.wrap_u64]; omega
                have e5 : IntKind.u64.wrap ((z : Int) + (Y1 : Int)) = ((z + Y1 : Nat) : Int) := by rw [IntKind.wrap_u64]; omega
                have Hd := Lib.hid hdec
                clear hd hdec
                generalize hx1 : x - 1 = x1 at *
                generalize z + Y1 = z1 at *
                generalize x * Y0 = P2 at *
                generalize 4294967296 * z + T0 = P3 at *
                generalize 4294967296 * z = P4 at *
                by_cases hz1 : 4294967296 ≤ z1
                · have d2 : decide ((4294967296 : Int) ≤ (z1 : Int)) = true := by simp; omega
                  have hbk := Hd.out.brk hUY2 g2 hz1
                  have hexit := Hd.out.exit hbk.2
                  clear hbk
                  have hfin := div_both (q0 := x1) g5 hY64 g6 g7 S3.out s2 (by rw [G1.out]; exact hexit) (HN.out.trans Gq.out)
                  clear hexit
                  go_wp2
                  go_ret2
                  exact ⟨_, rfl, rfl⟩
                · have d2 : decide ((4294967296 : Int) ≤ (z1 : Int)) = false := by simp; omega
                  go_wp2
                  go_round
                  case rel => exact ⟨x1, z1, rfl, rfl, by omega, by omega, Hd.out⟩
                  case measure => simp [intOf]; omega
              · have hexit := hd.exit (by omega)
                clear hd
                generalize x * Y0 = P2 at *
                generalize 4294967296 * z + T0 = P3 at *
                generalize 4294967296 * z = P4 at *
                have hfin := div_both (q0 := x) g5 hY64 g6 g7 S3.out s2 (by rw [G1.out]; exact hexit) (HN.out.trans Gq.out)
                clear hexit
                go_wp2
                go_ret2
                exact ⟨_, rfl, rfl⟩
        · have d2 : decide ((4294967296 : Int) ≤ (r1 : Int)) = false := by simp; omega
          go_wp2
          go_round
          case rel => exact ⟨q1, r1, rfl, rfl, by omega, by omega, Hd.out⟩
          case measure => simp [intOf]; omega
      · have hexit := hd.exit (by omega)
        clear hd
        generalize q * Y0 = P2 at *
        generalize 4294967296 * r + T1 = P3 at *
        generalize 4294967296 * r = P4 at *
        have Hexit := Lib.hid hexit
        clear hexit
        have hY64 : Y < 18446744073709551616 := by have := G1.out; omega
        obtain ⟨U2, s1, s2, s3⟩ := div_second (q := q) g5 hY64 g6 (by rw [G1.out]; exact Hexit.out)
        obtain ⟨D2, P5, R2, k1, k2, k3, k4, hdig2⟩ := div_first U2 Y1 Y0 T0 (by omega) g4 g7 (by omega)
        have Hdig2 := Lib.hid hdig2
        have S3 := Lib.hid s3
        have k5 : ¬ ((Y1 : Int) = 0) := by omega
        clear hdig2 s3
        go_wp2
        clear s1 k1 k2 k3 k4 k5
        clear d1 e1 e2 e3 ht hP hBq
        go_loop [18, 16] (fun a b => ∃ x z : Nat, a = .int .u64 x ∧ b = .int .u64 z ∧ z < 4294967296 ∧ x ≤ 4294967297 ∧ Dig Y1 Y0 U2 T0 x z) (fun a _ => (intOf a).toNat)
        case atStart => exact ⟨D2, R2, rfl, rfl, Hdig2.out.2, Hdig2.out.1.le (by have := G1.out; omega) g2 g3, Hdig2.out.1⟩
        case round =>
          obtain ⟨x, z, rfl, rfl, hz, hx, hd⟩ := hrel
          have hUY2 : U2 < Y1 * 4294967296 + Y0 := by have := G1.out; omega
          by_cases hBx : 4294967296 ≤ x
          · have d1 : decide ((4294967296 : Int) ≤ (x : Int)) = true := by simp; omega
            have hdec := hd.dec hUY2 g7 (.inl hBx)
            have e1 : IntKind.u64.wrap ((x : Int) - 1) = ((x - 1 : Nat) : Int) := by rw [IntKind.wrap_u64]; omega
            have e2 : IntKind.u64.wrap ((z : Int) + (Y1 : Int)) = ((z + Y1 : Nat) : Int) := by rw [IntKind.wrap_u64]; omega
            have Hd := Lib.hid hdec
            clear hd hdec
            generalize hx1 : x - 1 = x1 at *
            generalize z + Y1 = z1 at *
            by_cases hz1 : 4294967296 ≤ z1
            · have d2 : decide ((4294967296 : Int) ≤ (z1 : Int)) = true := by simp; omega
              have hbk := Hd.out.brk hUY2 g2 hz1
              have hexit := Hd.out.exit hbk.2
              clear hbk
              have hfin := div_both (q0 := x1) g5 hY64 g6 g7 S3.out s2 (by rw [G1.out]; exact hexit) (HN.out.trans Gq.out)
              clear hexit
              go_wp2
              go_ret2
              exact ⟨_, rfl, rfl⟩
            · have d2 : decide ((4294967296 : Int) ≤ (z1 : Int)) = false := by simp; omega
              go_wp2
              go_round
              case rel => exact ⟨x1, z1, rfl, rfl, by omega, by omega, Hd.out⟩
              case measure => simp [intOf]; omega
          · have d1 : decide ((4294967296 : Int) ≤ (x : Int)) = false := by simp; omega
            have hP : x * Y0 < 18446744073709551616 := by
              have : x * Y0 ≤ 4294967295 * 4294967295 := Nat.mul_le_mul (by omega) (by omega)
              omega
            have e1 : IntKind.u64.wrap ((x : Int) * (Y0 : Int)) = ((x * Y0 : Nat) : Int) := by rw [mulN_]; exact wrapN_ _ hP
            have e2 : IntKind.u64.wrap ((4294967296 : Int) * (z : Int)) = ((4294967296 * z : Nat) : Int) := by rw [IntKind.wrap_u64]; omega
            have e3 : IntKind.u64.wrap (((4294967296 * z : Nat) : Int) + (T0 : Int)) = ((4294967296 * z + T0 : Nat) : Int) := by rw [IntKind.wrap_u64]; omega
            by_cases ht : 4294967296 * z + T0 < x * Y0
            · have hpos := Dig.pos (.inr ht)
              have hdec := hd.dec hUY2 g7 (.inr ht)
              have e4 : IntKind.u64.wrap ((x : Int) - 1) = ((x - 1 : Nat) : Int) := by rw [IntKind.wrap_u64]; omega
              have e5 : IntKind.u64.wrap ((z : Int) + (Y1 : Int)) = ((z + Y1 : Nat) : Int) := by rw [IntKind.wrap_u64]; omega
              have Hd := Lib.hid hdec
              clear hd hdec
              generalize hx1 : x - 1 = x1 at *
              generalize z + Y1 = z1 at *
              generalize x * Y0 = P2 at *
              generalize 4294967296 * z + T0 = P3 at *
              generalize 4294967296 * z = P4 at *
              by_cases hz1 : 4294967296 ≤ z1
              · have d2 : decide ((4294967296 : Int) ≤ (z1 : Int)) = true := by simp; omega
                have hbk := Hd.out.brk hUY2 g2 hz1
                have hexit := Hd.out.exit hbk.2
                clear hbk
                have hfin := div_both (q0 := x1) g5 hY64 g6 g7 S3.out s2 (by rw [G1.out]; exact hexit) (HN.out.trans Gq.out)
                clear hexit
                go_wp2
                go_ret2
                exact ⟨_, rfl, rfl⟩
              · have d2 : decide ((4294967296 : Int) ≤ (z1 : Int)) = false := by simp; omega
                go_wp2
                go_round
                case rel => exact ⟨x1, z1, rfl, rfl, by omega, by omega, Hd.out⟩
                case measure => simp [intOf]; omega
            · have hexit := hd.exit (by omega)
              clear hd
              generalize x * Y0 = P2 at *
              generalize 4294967296 * z + T0 = P3 at *
              generalize 4294967296 * z = P4 at *
              have hfin := div_both (q0 := x) g5 hY64 g6 g7 S3.out s2 (by rw [G1.out]; exact hexit) (HN.out.trans Gq.out)
              clear hexit
              go_wp2
              go_ret2
              exact ⟨_, rfl, rfl⟩
end Go.Proofs.Ytbclbcldplmppaa

/- (a * b - c * d) / by in words of 128 bits. -/
namespace Go.Proofs.Ytbclbcldplmppaa
open Go.RowKit

set_option maxRecDepth 100000 in
set_option maxHeartbeats 1000000 in
theorem div64_any (hi lo y : Nat) (w : World) (hy : hi < y) (hy2 : y < 18446744073709551616) (hlo : lo < 18446744073709551616) :
    Calls Try.prog 109 #[.int .u64 hi, .int .u64 lo, .int .u64 y] w fun e w' => ∃ w2, DivRes ((hi * 18446744073709551616 + lo) / y) w2 e w' ∧ Ext w w2 := by
  rcases Nat.eq_zero_or_pos hi with rfl | h0
  · have b1 : ((y : Int) == 0) = false := by simp; omega
    have b2 : decide ((y : Int) ≤ 0) = false := by simp; omega
    have b3 : ¬ ((y : Int) = 0) := by omega
    have hq : lo / y < 18446744073709551616 := by have := Nat.div_le_self lo y; omega
    have e1 : IntKind.u64.wrap ((lo : Int).tdiv (y : Int)) = ((lo / y : Nat) : Int) := by rw [Int.ofNat_tdiv]; exact wrapN_ _ hq
    have e2 : IntKind.u64.wrap ((lo : Int) / (y : Int)) = ((lo / y : Nat) : Int) := by rw [← Int.natCast_ediv]; exact wrapN_ _ hq
    rw [Nat.zero_mul, Nat.zero_add]
    generalize lo / y = N at *
    go_enter Try.func109, Try.ntmps109
    go_wp2
    go_quiet (fail)
    go_wp2
    go_ret2
    exact ⟨w.drewN nq, ⟨_, rfl, rfl⟩, by simp⟩
  · exact (div64_hi hi lo y w h0 hy hy2 hlo).mono fun e w' h => ⟨w, h, Ext.refl w⟩

theorem sub64_call (x y b : Nat) (hb : b ≤ 1) (w : World) :
    (callFunc 107 #[.int .u64 x, .int .u64 y, .int .u64 b]).run Try.prog w =
      .ok (.value (.tuple #[.int .u64 (((x + 18446744073709551616 - y - b) % 18446744073709551616 : Nat) : Int), .int .u64 ((if x < y + b then 1 else 0 : Nat) : Int)])) w := by
  rw [run_callFunc_extern Try.func107 (by kernel_rfl) (by kernel_rfl) (by kernel_rfl) (e := sub64Entry) (by kernel_rfl), run_sub64 x y b hb]
  simp only [Result.andThen]

theorem add64_call (x y c : Nat) (hc : c ≤ 1) (w : World) :
    (callFunc 108 #[.int .u64 x, .int .u64 y, .int .u64 c]).run Try.prog w =
      .ok (.value (.tuple #[.int .u64 (((x + y + c) % 18446744073709551616 : Nat) : Int), .int .u64 (((x + y + c) / 18446744073709551616 : Nat) : Int)])) w := by
  rw [run_callFunc_extern Try.func108 (by kernel_rfl) (by kernel_rfl) (by kernel_rfl) (e := add64Entry) (by kernel_rfl), run_add64 x y c (by omega) (by omega) (by omega) (by omega)]
  simp only [Result.andThen]
  rfl

theorem maxAbs (a : Int) : (if a < -a then -a else a) = (a.natAbs : Int) := by split <;> omega

set_option maxRecDepth 100000 in
set_option maxHeartbeats 1000000 in
theorem times_any (a b : Int) (w : World) (ha : a.natAbs < 4611686018427387904) (hb : b.natAbs < 4611686018427387904) :
    Calls Try.prog 106 #[.int .i64 a, .int .i64 b] w fun e w' =>
      e = .returned (.tuple #[.int .u64 (a.natAbs * b.natAbs / 18446744073709551616 : Nat), .int .u64 (a.natAbs * b.natAbs % 18446744073709551616 : Nat), .bool (decide (a < 0) != decide (b < 0))]) ∧ w = w' := by
  have cm := mul64_any a.natAbs b.natAbs (by omega) (by omega) w
  have e1 : IntKind.i64.wrap (-a) = -a := by rw [IntKind.wrap_i64]; omega
  have e2 : IntKind.i64.wrap (-b) = -b := by rw [IntKind.wrap_i64]; omega
  have e3 : IntKind.u64.wrap (a.natAbs : Int) = (a.natAbs : Int) := wrapN_ _ (by omega)
  have e4 : IntKind.u64.wrap (b.natAbs : Int) = (b.natAbs : Int) := wrapN_ _ (by omega)
  have m1 := maxAbs a
  have m2 := maxAbs b
  generalize a.natAbs * b.natAbs / 18446744073709551616 = h at *
  generalize a.natAbs * b.natAbs % 18446744073709551616 = l at *
  generalize a.natAbs = A at *
  generalize b.natAbs = B at *
  go_enter Try.func106, Try.ntmps106
  go_wp2_with (go_at_call 113; refine cm.mono ?_; rintro e w' ⟨rfl, rfl⟩)
  refine bodyPost_ret (by simp [results, Try.results106, go_sem]; try rfl) rfl ?_
  exact ⟨rfl, rfl⟩

/-! ### The plain arithmetic -/

theorem signed_mul (a b : Int) : a * b = if (decide (a < 0) != decide (b < 0)) = true then -((a.natAbs * b.natAbs : Nat) : Int) else ((a.natAbs * b.natAbs : Nat) : Int) := by
  rw [Int.natCast_mul]
  by_cases h1 : a < 0 <;> by_cases h2 : b < 0 <;> simp only [h1, h2, decide_true, decide_false, bne_self_eq_false, Bool.false_eq_true, if_false]
  · rw [show ((a.natAbs : Int)) = -a by omega, show ((b.natAbs : Int)) = -b by omega, Int.neg_mul_neg]
  · rw [show ((a.natAbs : Int)) = -a by omega, show ((b.natAbs : Int)) = b by omega]; simp [Int.neg_mul]
  · rw [show ((a.natAbs : Int)) = a by omega, show ((b.natAbs : Int)) = -b by omega]; simp [Int.mul_neg]
  · rw [show ((a.natAbs : Int)) = a by omega, show ((b.natAbs : Int)) = b by omega]

theorem signed_quo {y q V : Int} {U : Nat} {neg : Bool} (hy : y ≠ 0) (h : y * q = V) (hV : V = if neg = true then -(U : Int) else (U : Int)) :
    U / y.natAbs = q.natAbs ∧ U < y.natAbs * (q.natAbs + 1) ∧ (if (neg != decide (y < 0)) = true then -(q.natAbs : Int) else (q.natAbs : Int)) = q := by
  have hU : U = y.natAbs * q.natAbs := by
    rw [← Int.natAbs_mul, h, hV]
    cases neg <;> simp
  have hyp : 0 < y.natAbs := by omega
  refine ⟨by rw [hU]; exact Nat.mul_div_cancel_left _ hyp, by rw [hU, Nat.mul_add]; omega, ?_⟩
  by_cases hq : q = 0
  · subst hq; simp
  · have hs := signed_mul y q
    rw [h, hV, ← hU] at hs
    have hUp : 0 < U := by rw [hU]; exact Nat.mul_pos hyp (by omega)
    by_cases h1 : y < 0 <;> by_cases h2 : q < 0 <;> cases neg <;> simp [h1, h2] at hs ⊢ <;> omega

theorem sub_pair {h l i k : Nat} (hl : l < 18446744073709551616) (hk : k < 18446744073709551616) (hh : h < 18446744073709551616) (hle : i * 18446744073709551616 + k ≤ h * 18446744073709551616 + l) :
    ∃ L bo H bo2 : Nat, (∀ w, (callFunc 107 #[.int .u64 l, .int .u64 k, .int .u64 0]).run Try.prog w = .ok (.value (.tuple #[.int .u64 (L : Int), .int .u64 (bo : Int)])) w) ∧
      (∀ w, (callFunc 107 #[.int .u64 h, .int .u64 i, .int .u64 bo]).run Try.prog w = .ok (.value (.tuple #[.int .u64 (H : Int), .int .u64 (bo2 : Int)])) w) ∧
      H * 18446744073709551616 + L = h * 18446744073709551616 + l - (i * 18446744073709551616 + k) ∧ L < 18446744073709551616 := by
  refine ⟨_, _, _, _, fun w => sub64_call l k 0 (by omega) w, fun w => sub64_call h i _ (by split <;> omega) w, ?_, Nat.mod_lt _ (by omega)⟩
  split <;> omega
theorem add_pair {h l i k : Nat} (hl : l < 18446744073709551616) (hk : k < 18446744073709551616) (hh : h < 4611686018427387904) (hi : i < 4611686018427387904) :
    ∃ L bo H bo2 : Nat, (∀ w, (callFunc 108 #[.int .u64 l, .int .u64 k, .int .u64 0]).run Try.prog w = .ok (.value (.tuple #[.int .u64 (L : Int), .int .u64 (bo : Int)])) w) ∧
      (∀ w, (callFunc 108 #[.int .u64 h, .int .u64 i, .int .u64 bo]).run Try.prog w = .ok (.value (.tuple #[.int .u64 (H : Int), .int .u64 (bo2 : Int)])) w) ∧
      H * 18446744073709551616 + L = h * 18446744073709551616 + l + (i * 18446744073709551616 + k) ∧ L < 18446744073709551616 := by
  refine ⟨_, _, _, _, fun w => add64_call l k 0 (by omega) w, fun w => add64_call h i _ (by omega) w, ?_, Nat.mod_lt _ (by omega)⟩
  omega
end Go.Proofs.Ytbclbcldplmppaa

/- (a * b - c * d) / by, a whole number: the walk. -/
namespace Go.Proofs.Ytbclbcldplmppaa
open Go.RowKit

theorem lt_of_quo {H L Y Q : Nat} (h : H * 18446744073709551616 + L < Y * (Q + 1)) (hQ : Q < 4611686018427387904) (_hY : 0 < Y) : H < Y := by
  rcases Nat.lt_or_ge H Y with h1 | h1
  · exact h1
  · have h2 := Nat.mul_le_mul_left Y (show Q + 1 ≤ 18446744073709551616 by omega)
    have h3 := Nat.mul_le_mul_right 18446744073709551616 h1
    omega

set_option maxRecDepth 100000 in
set_option maxHeartbeats 4000000 in
theorem step_any (a b c d y q : Int) (w : World) (ha : a.natAbs < 4611686018427387904) (hb : b.natAbs < 4611686018427387904) (hc : c.natAbs < 4611686018427387904) (hd : d.natAbs < 4611686018427387904)
    (hy : y ≠ 0) (hy2 : y.natAbs < 4611686018427387904) (hq : y * q = a * b - c * d) (hq2 : q.natAbs < 4611686018427387904) :
    Calls Try.prog 95 #[.int .i64 a, .int .i64 b, .int .i64 c, .int .i64 d, .int .i64 y] w fun e w' => e = .returned (.int .i64 q) ∧ Ext w w' := by
  have ct1 := fun w' => times_any a b w' ha hb
  have ct2 := fun w' => times_any c d w' hc hd
  have v1 := signed_mul a b
  have v2 := signed_mul c d
  have p1 : a.natAbs * b.natAbs < 21267647932558653966460912964485513216 := Nat.mul_lt_mul'' ha hb
  have p2 : c.natAbs * d.natAbs < 21267647932558653966460912964485513216 := Nat.mul_lt_mul'' hc hd
  have hsq := fun (U : Nat) (neg : Bool) (hV : a * b - c * d = if neg = true then -(U : Int) else (U : Int)) => signed_quo (U := U) (neg := neg) hy hq hV
  generalize (decide (a < 0) != decide (b < 0)) = be at *
  generalize (decide (c < 0) != decide (d < 0)) = un at *
  generalize a.natAbs * b.natAbs = P1 at *
  generalize c.natAbs * d.natAbs = P2 at *
  generalize a * b = A at *
  generalize c * d = C at *
  obtain ⟨h, hh⟩ : ∃ h, h = P1 / 18446744073709551616 := ⟨_, rfl⟩
  obtain ⟨l, hl⟩ : ∃ l, l = P1 % 18446744073709551616 := ⟨_, rfl⟩
  obtain ⟨i, hi⟩ : ∃ i, i = P2 / 18446744073709551616 := ⟨_, rfl⟩
  obtain ⟨k, hk⟩ : ∃ k, k = P2 % 18446744073709551616 := ⟨_, rfl⟩
  rw [← hh, ← hl] at ct1
  rw [← hi, ← hk] at ct2
  have hP1 : P1 = h * 18446744073709551616 + l := by omega
  have hP2 : P2 = i * 18446744073709551616 + k := by omega
  have hl1 : l < 18446744073709551616 := by omega
  have hk1 : k < 18446744073709551616 := by omega
  have hh1 : h < 4611686018427387904 := by omega
  have hi1 : i < 4611686018427387904 := by omega
  clear hh hl hi hk p1 p2
  subst hP1 hP2
  have ey : IntKind.i64.wrap (-y) = -y := by rw [IntKind.wrap_i64]; omega
  have my := maxAbs y
  have wy : IntKind.u64.wrap (y.natAbs : Int) = (y.natAbs : Int) := wrapN_ _ (by omega)
  have hY : 0 < y.natAbs := by omega
  have wq : IntKind.i64.wrap (q.natAbs : Int) = (q.natAbs : Int) := by rw [IntKind.wrap_i64]; omega
  have wq2 : IntKind.i64.wrap (-(q.natAbs : Int)) = -(q.natAbs : Int) := by rw [IntKind.wrap_i64]; omega
  have hylt : decide (y < 0) = true ∨ decide (y < 0) = false := by cases decide (y < 0) <;> simp
  generalize y.natAbs = Y at *
  generalize q.natAbs = Q at *
  cases be
  · cases un
    · rcases (by omega : h < i ∨ (h = i ∧ l < k) ∨ (h = i ∧ k ≤ l) ∨ i < h) with hc | ⟨rfl, hc⟩ | ⟨rfl, hc⟩ | hc
      · obtain ⟨L, bo, H, bo2, s1, s2, s3, s4⟩ := sub_pair hk1 hl1 (by omega) (show h * 18446744073709551616 + l ≤ i * 18446744073709551616 + k by omega)
        obtain ⟨t1, t2, t3⟩ := hsq (H * 18446744073709551616 + L) true (by rw [v1, v2, s3]; first | (simp; done) | (simp; omega))
        have cd := fun w' => div64_any H L Y w' (lt_of_quo t2 hq2 hY) (by omega) s4
        rw [t1] at cd
        have T3 := Lib.hid t3
        have S3 := Lib.hid s3
        clear hsq v1 v2 s3 s4 t1 t2 t3 hq
        have d1 : decide ((h : Int) < (i : Int)) = true := by simp; omega
        rcases hylt with hys | hys
        all_goals
          rw [hys] at T3
          go_enter Try.func95, Try.ntmps95
          go_wp2_with (first
            | (go_at_call 106; first | (with_reducible refine (ct1 _).mono ?_; rintro e w' ⟨rfl, rfl⟩) | (with_reducible refine (ct2 _).mono ?_; rintro e w' ⟨rfl, rfl⟩))
            | (go_at_call 109; refine (cd _).mono ?_; rintro e w3 ⟨w2, ⟨r, rfl, rfl⟩, hx⟩))
          go_ret
          exact ⟨ret_i (by have := T3.out; simpa using this), hx⟩
      · obtain ⟨L, bo, H, bo2, s1, s2, s3, s4⟩ := sub_pair hk1 hl1 (by omega) (show h * 18446744073709551616 + l ≤ h * 18446744073709551616 + k by omega)
        obtain ⟨t1, t2, t3⟩ := hsq (H * 18446744073709551616 + L) true (by rw [v1, v2, s3]; first | (simp; done) | (simp; omega))
        have cd := fun w' => div64_any H L Y w' (lt_of_quo t2 hq2 hY) (by omega) s4
        rw [t1] at cd
        have T3 := Lib.hid t3
        have S3 := Lib.hid s3
        clear hsq v1 v2 s3 s4 t1 t2 t3 hq
        have d3 : decide ((l : Int) < (k : Int)) = true := by simp; omega
        rcases hylt with hys | hys
        all_goals
          rw [hys] at T3
          go_enter Try.func95, Try.ntmps95
          go_wp2_with (first
            | (go_at_call 106; first | (with_reducible refine (ct1 _).mono ?_; rintro e w' ⟨rfl, rfl⟩) | (with_reducible refine (ct2 _).mono ?_; rintro e w' ⟨rfl, rfl⟩))
            | (go_at_call 109; refine (cd _).mono ?_; rintro e w3 ⟨w2, ⟨r, rfl, rfl⟩, hx⟩))
          go_ret
          exact ⟨ret_i (by have := T3.out; simpa using this), hx⟩
      · obtain ⟨L, bo, H, bo2, s1, s2, s3, s4⟩ := sub_pair hl1 hk1 (by omega) (show h * 18446744073709551616 + k ≤ h * 18446744073709551616 + l by omega)
        obtain ⟨t1, t2, t3⟩ := hsq (H * 18446744073709551616 + L) false (by rw [v1, v2, s3]; first | (simp; done) | (simp; omega))
        have cd := fun w' => div64_any H L Y w' (lt_of_quo t2 hq2 hY) (by omega) s4
        rw [t1] at cd
        have T3 := Lib.hid t3
        have S3 := Lib.hid s3
        clear hsq v1 v2 s3 s4 t1 t2 t3 hq
        have d3 : decide ((l : Int) < (k : Int)) = false := by simp; omega
        rcases hylt with hys | hys
        all_goals
          rw [hys] at T3
          go_enter Try.func95, Try.ntmps95
          go_wp2_with (first
            | (go_at_call 106; first | (with_reducible refine (ct1 _).mono ?_; rintro e w' ⟨rfl, rfl⟩) | (with_reducible refine (ct2 _).mono ?_; rintro e w' ⟨rfl, rfl⟩))
            | (go_at_call 109; refine (cd _).mono ?_; rintro e w3 ⟨w2, ⟨r, rfl, rfl⟩, hx⟩))
          go_ret
          exact ⟨ret_i (by have := T3.out; simpa using this), hx⟩
      · obtain ⟨L, bo, H, bo2, s1, s2, s3, s4⟩ := sub_pair hl1 hk1 (by omega) (show i * 18446744073709551616 + k ≤ h * 18446744073709551616 + l by omega)
        obtain ⟨t1, t2, t3⟩ := hsq (H * 18446744073709551616 + L) false (by rw [v1, v2, s3]; first | (simp; done) | (simp; omega))
        have cd := fun w' => div64_any H L Y w' (lt_of_quo t2 hq2 hY) (by omega) s4
        rw [t1] at cd
        have T3 := Lib.hid t3
        have S3 := Lib.hid s3
        clear hsq v1 v2 s3 s4 t1 t2 t3 hq
        have d1 : decide ((h : Int) < (i : Int)) = false := by simp; omega
        have d2 : ((h : Int) == (i : Int)) = false := by simp; omega
        rcases hylt with hys | hys
        all_goals
          rw [hys] at T3
          go_enter Try.func95, Try.ntmps95
          go_wp2_with (first
            | (go_at_call 106; first | (with_reducible refine (ct1 _).mono ?_; rintro e w' ⟨rfl, rfl⟩) | (with_reducible refine (ct2 _).mono ?_; rintro e w' ⟨rfl, rfl⟩))
            | (go_at_call 109; refine (cd _).mono ?_; rintro e w3 ⟨w2, ⟨r, rfl, rfl⟩, hx⟩))
          go_ret
          exact ⟨ret_i (by have := T3.out; simpa using this), hx⟩

    · obtain ⟨L, bo, H, bo2, s1, s2, s3, s4⟩ := add_pair hl1 hk1 hh1 hi1
      obtain ⟨t1, t2, t3⟩ := hsq (H * 18446744073709551616 + L) false (by rw [v1, v2, s3]; first | (simp; done) | (simp; omega))
      have cd := fun w' => div64_any H L Y w' (lt_of_quo t2 hq2 hY) (by omega) s4
      rw [t1] at cd
      have T3 := Lib.hid t3
      have S3 := Lib.hid s3
      clear hsq v1 v2 s3 s4 t1 t2 t3 hq
      have d0 : True := trivial
      rcases hylt with hys | hys
      all_goals
        rw [hys] at T3
        go_enter Try.func95, Try.ntmps95
        go_wp2_with (first
          | (go_at_call 106; first | (with_reducible refine (ct1 _).mono ?_; rintro e w' ⟨rfl, rfl⟩) | (with_reducible refine (ct2 _).mono ?_; rintro e w' ⟨rfl, rfl⟩))
          | (go_at_call 109; refine (cd _).mono ?_; rintro e w3 ⟨w2, ⟨r, rfl, rfl⟩, hx⟩))
        go_ret
        exact ⟨ret_i (by have := T3.out; simpa using this), hx⟩
  · cases un
    · obtain ⟨L, bo, H, bo2, s1, s2, s3, s4⟩ := add_pair hl1 hk1 hh1 hi1
      obtain ⟨t1, t2, t3⟩ := hsq (H * 18446744073709551616 + L) true (by rw [v1, v2, s3]; first | (simp; done) | (simp; omega))
      have cd := fun w' => div64_any H L Y w' (lt_of_quo t2 hq2 hY) (by omega) s4
      rw [t1] at cd
      have T3 := Lib.hid t3
      have S3 := Lib.hid s3
      clear hsq v1 v2 s3 s4 t1 t2 t3 hq
      have d0 : True := trivial
      rcases hylt with hys | hys
      all_goals
        rw [hys] at T3
        go_enter Try.func95, Try.ntmps95
        go_wp2_with (first
          | (go_at_call 106; first | (with_reducible refine (ct1 _).mono ?_; rintro e w' ⟨rfl, rfl⟩) | (with_reducible refine (ct2 _).mono ?_; rintro e w' ⟨rfl, rfl⟩))
          | (go_at_call 109; refine (cd _).mono ?_; rintro e w3 ⟨w2, ⟨r, rfl, rfl⟩, hx⟩))
        go_ret
        exact ⟨ret_i (by have := T3.out; simpa using this), hx⟩
    · rcases (by omega : h < i ∨ (h = i ∧ l < k) ∨ (h = i ∧ k ≤ l) ∨ i < h) with hc | ⟨rfl, hc⟩ | ⟨rfl, hc⟩ | hc
      · obtain ⟨L, bo, H, bo2, s1, s2, s3, s4⟩ := sub_pair hk1 hl1 (by omega) (show h * 18446744073709551616 + l ≤ i * 18446744073709551616 + k by omega)
        obtain ⟨t1, t2, t3⟩ := hsq (H * 18446744073709551616 + L) false (by rw [v1, v2, s3]; first | (simp; done) | (simp; omega))
        have cd := fun w' => div64_any H L Y w' (lt_of_quo t2 hq2 hY) (by omega) s4
        rw [t1] at cd
        have T3 := Lib.hid t3
        have S3 := Lib.hid s3
        clear hsq v1 v2 s3 s4 t1 t2 t3 hq
        have d1 : decide ((h : Int) < (i : Int)) = true := by simp; omega
        rcases hylt with hys | hys
        all_goals
          rw [hys] at T3
          go_enter Try.func95, Try.ntmps95
          go_wp2_with (first
            | (go_at_call 106; first | (with_reducible refine (ct1 _).mono ?_; rintro e w' ⟨rfl, rfl⟩) | (with_reducible refine (ct2 _).mono ?_; rintro e w' ⟨rfl, rfl⟩))
            | (go_at_call 109; refine (cd _).mono ?_; rintro e w3 ⟨w2, ⟨r, rfl, rfl⟩, hx⟩))
          go_ret
          exact ⟨ret_i (by have := T3.out; simpa using this), hx⟩
      · obtain ⟨L, bo, H, bo2, s1, s2, s3, s4⟩ := sub_pair hk1 hl1 (by omega) (show h * 18446744073709551616 + l ≤ h * 18446744073709551616 + k by omega)
        obtain ⟨t1, t2, t3⟩ := hsq (H * 18446744073709551616 + L) false (by rw [v1, v2, s3]; first | (simp; done) | (simp; omega))
        have cd := fun w' => div64_any H L Y w' (lt_of_quo t2 hq2 hY) (by omega) s4
        rw [t1] at cd
        have T3 := Lib.hid t3
        have S3 := Lib.hid s3
        clear hsq v1 v2 s3 s4 t1 t2 t3 hq
        have d3 : decide ((l : Int) < (k : Int)) = true := by simp; omega
        rcases hylt with hys | hys
        all_goals
          rw [hys] at T3
          go_enter Try.func95, Try.ntmps95
          go_wp2_with (first
            | (go_at_call 106; first | (with_reducible refine (ct1 _).mono ?_; rintro e w' ⟨rfl, rfl⟩) | (with_reducible refine (ct2 _).mono ?_; rintro e w' ⟨rfl, rfl⟩))
            | (go_at_call 109; refine (cd _).mono ?_; rintro e w3 ⟨w2, ⟨r, rfl, rfl⟩, hx⟩))
          go_ret
          exact ⟨ret_i (by have := T3.out; simpa using this), hx⟩
      · obtain ⟨L, bo, H, bo2, s1, s2, s3, s4⟩ := sub_pair hl1 hk1 (by omega) (show h * 18446744073709551616 + k ≤ h * 18446744073709551616 + l by omega)
        obtain ⟨t1, t2, t3⟩ := hsq (H * 18446744073709551616 + L) true (by rw [v1, v2, s3]; first | (simp; done) | (simp; omega))
        have cd := fun w' => div64_any H L Y w' (lt_of_quo t2 hq2 hY) (by omega) s4
        rw [t1] at cd
        have T3 := Lib.hid t3
        have S3 := Lib.hid s3
        clear hsq v1 v2 s3 s4 t1 t2 t3 hq
        have d3 : decide ((l : Int) < (k : Int)) = false := by simp; omega
        rcases hylt with hys | hys
        all_goals
          rw [hys] at T3
          go_enter Try.func95, Try.ntmps95
          go_wp2_with (first
            | (go_at_call 106; first | (with_reducible refine (ct1 _).mono ?_; rintro e w' ⟨rfl, rfl⟩) | (with_reducible refine (ct2 _).mono ?_; rintro e w' ⟨rfl, rfl⟩))
            | (go_at_call 109; refine (cd _).mono ?_; rintro e w3 ⟨w2, ⟨r, rfl, rfl⟩, hx⟩))
          go_ret
          exact ⟨ret_i (by have := T3.out; simpa using this), hx⟩
      · obtain ⟨L, bo, H, bo2, s1, s2, s3, s4⟩ := sub_pair hl1 hk1 (by omega) (show i * 18446744073709551616 + k ≤ h * 18446744073709551616 + l by omega)
        obtain ⟨t1, t2, t3⟩ := hsq (H * 18446744073709551616 + L) true (by rw [v1, v2, s3]; first | (simp; done) | (simp; omega))
        have cd := fun w' => div64_any H L Y w' (lt_of_quo t2 hq2 hY) (by omega) s4
        rw [t1] at cd
        have T3 := Lib.hid t3
        have S3 := Lib.hid s3
        clear hsq v1 v2 s3 s4 t1 t2 t3 hq
        have d1 : decide ((h : Int) < (i : Int)) = false := by simp; omega
        have d2 : ((h : Int) == (i : Int)) = false := by simp; omega
        rcases hylt with hys | hys
        all_goals
          rw [hys] at T3
          go_enter Try.func95, Try.ntmps95
          go_wp2_with (first
            | (go_at_call 106; first | (with_reducible refine (ct1 _).mono ?_; rintro e w' ⟨rfl, rfl⟩) | (with_reducible refine (ct2 _).mono ?_; rintro e w' ⟨rfl, rfl⟩))
            | (go_at_call 109; refine (cd _).mono ?_; rintro e w3 ⟨w2, ⟨r, rfl, rfl⟩, hx⟩))
          go_ret
          exact ⟨ret_i (by have := T3.out; simpa using this), hx⟩

end Go.Proofs.Ytbclbcldplmppaa

/- solve: the loops over a row's two lines. -/
namespace Go.Proofs.Ytbclbcldplmppaa
open Go.RowKit


set_option maxRecDepth 1000000 in
set_option maxHeartbeats 4000000 in
theorem loopL {u0 u1 u2 u3 u4 u6 u7 u8 u9 u11 u13 u16 u17 u18 u19 u20 u21 u22 u23 u24 u25 u26 u27 u28 u29 u30 u31 u32 u33 u34 u35 u36 u37 u38 u39 u40 u41 u42 u43 u44 u45 u46 u47 u48 u49 u50 u51 u52 u53 u54 u55 u56 u57 u58 u59 u60 u61 u62 u63 u64 u65 u66 u67 u68 u69 u70 u71 u72 u73 u74 u75 u76 u77 u78 u79 u80 u81 u82 u83 u84 u85 u86 u87 u88 u89 u90 u91 u92 u93 u94 u95 u96 u97 u98 u99 u100 u101 u104 u105 u106 u107 u108 u109 u110 u111 u112 u113 u114 u115 u116 u117 u118 u119 u120 u121 u122 u123 u124 u125 u126 u127 u128 u129 u130 u131 u132 u133 u134 u135 u136 u137 u138 u139 u140 u141 u142 u143 u144 u145 u146 u147 u148 u149 u150 u151 u152 u153 u154 u155 u156 u157 u158 u159 u160 u161 u162 u163 u164 u165 u166 u167 u168 : Value} {b w0 : World} {n m pn q g4 mb g5 bk gv cv x : Nat} {g h : Nat → Nat} {N M : Nat → Nat → Int} {F G : Nat → List Int} {piv : Nat → Int} {p cv0 d : Int} {ord : Value} {cnt : Nat} {D : DataW Unit} {Q : Exit → Act → World → Prop}
    (hn : n ≤ 8) (hm : m ≤ 16) (hqm : q < m) (hpm : pn < m) (hne : pn ≠ q)
    (hstep : ∀ j, j < n → ∀ w' : World, Calls Try.prog 95 #[.int .i64 p, .int .i64 (M x j), .int .i64 cv0, .int .i64 (piv j), .int .i64 d] w' fun e w'' => e = .returned (.int .i64 (N x j)) ∧ Ext w' w'')
    (hpiv : ∀ j, j < n → getI (F pn) j = piv j) (hbg : ∀ k, k < m → bk ≠ g k ∧ bk ≠ h k) (hsep : Sep g5 (.slice (some ⟨gv, 0, none⟩) m cv) m g h)
    (hmf : MF b w0 (.slice (some ⟨gv, 0, none⟩) m cv) n m m g h (fun i => if i = q then mixL N M n x 0 else F i) G) (hfr : Fr w0 g4 mb g5 (.slice (some ⟨gv, 0, none⟩) m cv) ord d cnt D) (hbx : Bx w0 bk [sl (g q) n, sl (h q) m])
    (hexit : ∀ (x16 x103 x104 x105 x106 x107 x108 x109 x110 x111 x112 x113 x114 x115 x116 x117 x118 x119 x120 x121 x122 x123 x124 x125 x126 x127 x128 x129 : Value) (w' : World), MF b w' (.slice (some ⟨gv, 0, none⟩) m cv) n m m g h (fun i => if i = q then mixL N M n x n else F i) G → Fr w' g4 mb g5 (.slice (some ⟨gv, 0, none⟩) m cv) ord d cnt D → Bx w' bk [sl (g q) n, sl (h q) m] → Q (.exit 8) ⟨(u0 :: u1 :: u2 :: u3 :: u4 :: (.pointer (some ⟨g5, 0, none⟩)) :: u6 :: u7 :: u8 :: u9 :: (.int .i64 (pn : Int)) :: u11 :: (.int .i64 p) :: u13 :: (.pointer (some ⟨bk, 0, none⟩)) :: (.int .i64 cv0) :: (x16) :: u17 :: u18 :: u19 :: u20 :: u21 :: u22 :: u23 :: u24 :: u25 :: u26 :: u27 :: u28 :: u29 :: u30 :: u31 :: u32 :: u33 :: u34 :: u35 :: u36 :: u37 :: u38 :: u39 :: u40 :: u41 :: u42 :: u43 :: u44 :: u45 :: u46 :: u47 :: u48 :: u49 :: u50 :: u51 :: u52 :: u53 :: u54 :: u55 :: u56 :: u57 :: u58 :: u59 :: u60 :: u61 :: u62 :: u63 :: u64 :: u65 :: u66 :: u67 :: u68 :: u69 :: u70 :: u71 :: u72 :: u73 :: u74 :: u75 :: u76 :: u77 :: u78 :: u79 :: u80 :: u81 :: u82 :: u83 :: u84 :: u85 :: u86 :: u87 :: u88 :: u89 :: u90 :: u91 :: u92 :: u93 :: u94 :: u95 :: u96 :: u97 :: u98 :: u99 :: u100 :: u101 :: (.int .i64 (n : Int)) :: (x103) :: (x104) :: (x105) :: (x106) :: (x107) :: (x108) :: (x109) :: (x110) :: (x111) :: (x112) :: (x113) :: (x114) :: (x115) :: (x116) :: (x117) :: (x118) :: (x119) :: (x120) :: (x121) :: (x122) :: (x123) :: (x124) :: (x125) :: (x126) :: (x127) :: (x128) :: (x129) :: u130 :: u131 :: u132 :: u133 :: u134 :: u135 :: u136 :: u137 :: u138 :: u139 :: u140 :: u141 :: u142 :: u143 :: u144 :: u145 :: u146 :: u147 :: u148 :: u149 :: u150 :: u151 :: u152 :: u153 :: u154 :: u155 :: u156 :: u157 :: u158 :: u159 :: u160 :: u161 :: u162 :: u163 :: u164 :: u165 :: u166 :: u167 :: u168 :: []).toArray, []⟩ w') :
    Code.wp Try.prog (Code.loop loop65_8) Q ⟨(u0 :: u1 :: u2 :: u3 :: u4 :: (.pointer (some ⟨g5, 0, none⟩)) :: u6 :: u7 :: u8 :: u9 :: (.int .i64 (pn : Int)) :: u11 :: (.int .i64 p) :: u13 :: (.pointer (some ⟨bk, 0, none⟩)) :: (.int .i64 cv0) :: u16 :: u17 :: u18 :: u19 :: u20 :: u21 :: u22 :: u23 :: u24 :: u25 :: u26 :: u27 :: u28 :: u29 :: u30 :: u31 :: u32 :: u33 :: u34 :: u35 :: u36 :: u37 :: u38 :: u39 :: u40 :: u41 :: u42 :: u43 :: u44 :: u45 :: u46 :: u47 :: u48 :: u49 :: u50 :: u51 :: u52 :: u53 :: u54 :: u55 :: u56 :: u57 :: u58 :: u59 :: u60 :: u61 :: u62 :: u63 :: u64 :: u65 :: u66 :: u67 :: u68 :: u69 :: u70 :: u71 :: u72 :: u73 :: u74 :: u75 :: u76 :: u77 :: u78 :: u79 :: u80 :: u81 :: u82 :: u83 :: u84 :: u85 :: u86 :: u87 :: u88 :: u89 :: u90 :: u91 :: u92 :: u93 :: u94 :: u95 :: u96 :: u97 :: u98 :: u99 :: u100 :: u101 :: (.int .i64 (n : Int)) :: (.int .i64 0) :: u104 :: u105 :: u106 :: u107 :: u108 :: u109 :: u110 :: u111 :: u112 :: u113 :: u114 :: u115 :: u116 :: u117 :: u118 :: u119 :: u120 :: u121 :: u122 :: u123 :: u124 :: u125 :: u126 :: u127 :: u128 :: u129 :: u130 :: u131 :: u132 :: u133 :: u134 :: u135 :: u136 :: u137 :: u138 :: u139 :: u140 :: u141 :: u142 :: u143 :: u144 :: u145 :: u146 :: u147 :: u148 :: u149 :: u150 :: u151 :: u152 :: u153 :: u154 :: u155 :: u156 :: u157 :: u158 :: u159 :: u160 :: u161 :: u162 :: u163 :: u164 :: u165 :: u166 :: u167 :: u168 :: []).toArray, []⟩ w0 := by
  have Hexit := Lib.hid hexit
  have Hstep := Lib.hid hstep
  have Hpiv := Lib.hid hpiv
  have Hbg := Lib.hid hbg
  have Hsep := Lib.hid hsep
  clear hexit hstep hpiv hbg hsep
  conv => arg 2; arg 1; whnf
  go_loopw [103] (fun i wr => ∃ j : Nat, j ≤ n ∧ i = .int .i64 j ∧ MF b wr (.slice (some ⟨gv, 0, none⟩) m cv) n m m g h (fun i => if i = q then mixL N M n x j else F i) G ∧ Fr wr g4 mb g5 (.slice (some ⟨gv, 0, none⟩) m cv) ord d cnt D ∧ Bx wr bk [sl (g q) n, sl (h q) m]) (fun i _ => n - (intOf i).toNat)
  case atStart => exact ⟨0, by omega, rfl, hmf, hfr, hbx⟩
  case round =>
    clear hmf hfr hbx
    obtain ⟨j, hj, rfl, hmf, hfr, hbx⟩ := hrel
    by_cases hjn : j < n
    · have cb : ∀ w', Ext wr w' → w'.cell? ⟨bk, 0, none⟩ = some (sl (g q) n) := fun w' he => he.cell (hbx.cell 0 (by simp))
      have c50 : ∀ w', Ext wr w' → w'.cell? ⟨g5, 0, none⟩ = some (.slice (some ⟨gv, 0, none⟩) m cv) := fun w' he => he.cell (hfr.b5.cell 0 (by simp))
      have c53 : ∀ w', Ext wr w' → w'.cell? ⟨g5, 3, none⟩ = some (.int .i64 d) := fun w' he => he.cell (hfr.b5.cell 3 (by simp))
      have cv0' : ∀ w', Ext wr w' → w'.cell? ⟨gv, pn * 2, none⟩ = some (sl (g pn) n) := fun w' he => he.cell (by
        rw [hmf.own.cell (j := pn * 2) (by rw [rowCells_len]; omega)]
        exact (rowCells_get n m m g h hpm).1)
      have hlq := hmf.gl q hqm
      rw [if_pos rfl] at hlq
      have hlp := hmf.gl pn hpm
      rw [if_neg hne] at hlp
      have cq : ∀ w', Ext wr w' → w'.cell? ⟨g q, j, none⟩ = some (vint (M x j)) := fun w' he => he.cell (by
        rw [hlq.1.cell (by rw [mixL_length]; exact hjn), getI_mixL hjn])
      have cp : ∀ w', Ext wr w' → w'.cell? ⟨g pn, j, none⟩ = some (vint (piv j)) := fun w' he => he.cell (by
        rw [hlp.1.cell (by rw [hlp.2]; exact hjn), Hpiv.out j hjn])
      have hfq : wr.frozen? ⟨g q, j, none⟩ = false := hlq.1.free (by rw [mixL_length]; unfold maxLen; omega) j
      have hqlt := hlq.1.lt
      have hji : (j : Int) < (n : Int) := by omega
      have hpi : (pn : Int) < (m : Int) := by omega
      have hst := Hstep.out j hjn
      have Hst := Lib.hid hst
      clear hst hlq hlp
      go_wp2
      refine wp_region_calm 22 (fun _ _ v _ => v = .int .i64 (N x j)) (fun _ _ _ _ _ _ h => h) (by kernel_rfl) (by kernel_rfl) ?_
      simp only [List.take_succ_cons, List.take_zero, List.drop_succ_cons, List.drop_zero]
      refine calm_quiet calm_mono_final 21 (by kernel_rfl) ?_
      simp only [List.take_succ_cons, List.take_zero, List.drop_succ_cons, List.drop_zero]
      repeat (go_big_quiet_step (fail))
      refine wpQuiet_nil ?_
      refine calm_call calm_mono_final 95 #[.int .i64 p, .int .i64 (M x j), .int .i64 cv0, .int .i64 (piv j), .int .i64 d] rfl (fun w => ?_) (fun w he _ => ?_) ?_
      · go_simp
      · exact (Hst.out w).mono fun e w'' ⟨he', hx⟩ => ⟨_, he', hx, rfl⟩
      intro v1 _ _ hv1
      have hv1' : v1 = .int .i64 (N x j) := hv1
      subst hv1'
      clear hv1
      simp only [Act.put, List.setIfInBounds_toArray, List.set_cons_succ, List.set_cons_zero]
      refine calm_nil fun w3 he3 hF => ?_
      clear hF
      have cq3 := cq w3 he3
      have hf3 : w3.frozen? ⟨g q, j, none⟩ = false := (he3.frozen hqlt).trans hfq
      have hmf3 := (hmf.later he3).storeL hqm (by omega) (by omega) j (N x j)
      rw [if_pos rfl] at hmf3
      have hfr3 := (hfr.later he3).other (p := ⟨g q, j, none⟩) (Hsep.out.g q hqm) (vint (N x j))
      have hbx3 := (hbx.later he3).other (p := ⟨g q, j, none⟩) (fun e => (Hbg.out q hqm).1 e.symm) (vint (N x j))
      clear cb c50 c53 cv0' cq cp hfq Hst
      go_wp2
      go_roundw
      case rel =>
        refine ⟨j + 1, by omega, by go_num, hmf3.congr (fun i _ => ?_) (fun _ _ => rfl), hfr3, hbx3⟩
        by_cases e : i = q
        · rw [if_pos e, if_pos e, mixL_set hjn]
        · rw [if_neg e, if_neg e, if_neg e]
      case measure => simp [intOf]; omega
    · obtain rfl : j = n := by omega
      have hx := Hexit.out
      go_wp2
      exact hx _ _ _ _ _ _ _ _ _ _ _ _ _ _ _ _ _ _ _ _ _ _ _ _ _ _ _ _ wr hmf hfr hbx

set_option maxRecDepth 1000000 in
set_option maxHeartbeats 4000000 in
theorem loopB {u0 u1 u2 u3 u4 u6 u7 u8 u9 u11 u13 u16 u17 u18 u19 u20 u21 u22 u23 u24 u25 u26 u27 u28 u29 u30 u31 u32 u33 u34 u35 u36 u37 u38 u39 u40 u41 u42 u43 u44 u45 u46 u47 u48 u49 u50 u51 u52 u53 u54 u55 u56 u57 u58 u59 u60 u61 u62 u63 u64 u65 u66 u67 u68 u69 u70 u71 u72 u73 u74 u75 u76 u77 u78 u79 u80 u81 u82 u83 u84 u85 u86 u87 u88 u89 u90 u91 u92 u93 u94 u95 u96 u97 u98 u99 u100 u101 u102 u103 u104 u105 u106 u107 u108 u109 u110 u111 u112 u113 u114 u115 u116 u117 u118 u119 u120 u121 u122 u123 u124 u125 u126 u127 u128 u129 u130 u131 u134 u135 u136 u137 u138 u139 u140 u141 u142 u143 u144 u145 u146 u147 u148 u149 u150 u151 u152 u153 u154 u155 u156 u157 u158 u159 u160 u161 u162 u163 u164 u165 u166 u167 u168 : Value} {b w0 : World} {n m pn q g4 mb g5 bk gv cv x : Nat} {g h : Nat → Nat} {N M : Nat → Nat → Int} {F G : Nat → List Int} {piv : Nat → Int} {p cv0 d : Int} {ord : Value} {cnt : Nat} {D : DataW Unit} {Q : Exit → Act → World → Prop}
    (hn : n ≤ 8) (hm : m ≤ 16) (hqm : q < m) (hpm : pn < m) (hne : pn ≠ q)
    (hstep : ∀ j, j < m → ∀ w' : World, Calls Try.prog 95 #[.int .i64 p, .int .i64 (M x (n + j)), .int .i64 cv0, .int .i64 (piv j), .int .i64 d] w' fun e w'' => e = .returned (.int .i64 (N x (n + j))) ∧ Ext w' w'')
    (hpiv : ∀ j, j < m → getI (F pn) j = piv j) (hbg : ∀ k, k < m → bk ≠ g k ∧ bk ≠ h k) (hsep : Sep g5 (.slice (some ⟨gv, 0, none⟩) m cv) m g h)
    (hmf : MF b w0 (.slice (some ⟨gv, 0, none⟩) m cv) n m m g h G (fun i => if i = q then mixB N M n m x 0 else F i)) (hfr : Fr w0 g4 mb g5 (.slice (some ⟨gv, 0, none⟩) m cv) ord d cnt D) (hbx : Bx w0 bk [sl (g q) n, sl (h q) m])
    (hexit : ∀ (x17 x133 x134 x135 x136 x137 x138 x139 x140 x141 x142 x143 x144 x145 x146 x147 x148 x149 x150 x151 x152 x153 x154 x155 x156 x157 x158 x159 : Value) (w' : World), MF b w' (.slice (some ⟨gv, 0, none⟩) m cv) n m m g h G (fun i => if i = q then mixB N M n m x m else F i) → Fr w' g4 mb g5 (.slice (some ⟨gv, 0, none⟩) m cv) ord d cnt D → Bx w' bk [sl (g q) n, sl (h q) m] → Q (.exit 10) ⟨(u0 :: u1 :: u2 :: u3 :: u4 :: (.pointer (some ⟨g5, 0, none⟩)) :: u6 :: u7 :: u8 :: u9 :: (.int .i64 (pn : Int)) :: u11 :: (.int .i64 p) :: u13 :: (.pointer (some ⟨bk, 0, none⟩)) :: (.int .i64 cv0) :: u16 :: (x17) :: u18 :: u19 :: u20 :: u21 :: u22 :: u23 :: u24 :: u25 :: u26 :: u27 :: u28 :: u29 :: u30 :: u31 :: u32 :: u33 :: u34 :: u35 :: u36 :: u37 :: u38 :: u39 :: u40 :: u41 :: u42 :: u43 :: u44 :: u45 :: u46 :: u47 :: u48 :: u49 :: u50 :: u51 :: u52 :: u53 :: u54 :: u55 :: u56 :: u57 :: u58 :: u59 :: u60 :: u61 :: u62 :: u63 :: u64 :: u65 :: u66 :: u67 :: u68 :: u69 :: u70 :: u71 :: u72 :: u73 :: u74 :: u75 :: u76 :: u77 :: u78 :: u79 :: u80 :: u81 :: u82 :: u83 :: u84 :: u85 :: u86 :: u87 :: u88 :: u89 :: u90 :: u91 :: u92 :: u93 :: u94 :: u95 :: u96 :: u97 :: u98 :: u99 :: u100 :: u101 :: u102 :: u103 :: u104 :: u105 :: u106 :: u107 :: u108 :: u109 :: u110 :: u111 :: u112 :: u113 :: u114 :: u115 :: u116 :: u117 :: u118 :: u119 :: u120 :: u121 :: u122 :: u123 :: u124 :: u125 :: u126 :: u127 :: u128 :: u129 :: u130 :: u131 :: (.int .i64 (m : Int)) :: (x133) :: (x134) :: (x135) :: (x136) :: (x137) :: (x138) :: (x139) :: (x140) :: (x141) :: (x142) :: (x143) :: (x144) :: (x145) :: (x146) :: (x147) :: (x148) :: (x149) :: (x150) :: (x151) :: (x152) :: (x153) :: (x154) :: (x155) :: (x156) :: (x157) :: (x158) :: (x159) :: u160 :: u161 :: u162 :: u163 :: u164 :: u165 :: u166 :: u167 :: u168 :: []).toArray, []⟩ w') :
    Code.wp Try.prog (Code.loop loop65_10) Q ⟨(u0 :: u1 :: u2 :: u3 :: u4 :: (.pointer (some ⟨g5, 0, none⟩)) :: u6 :: u7 :: u8 :: u9 :: (.int .i64 (pn : Int)) :: u11 :: (.int .i64 p) :: u13 :: (.pointer (some ⟨bk, 0, none⟩)) :: (.int .i64 cv0) :: u16 :: u17 :: u18 :: u19 :: u20 :: u21 :: u22 :: u23 :: u24 :: u25 :: u26 :: u27 :: u28 :: u29 :: u30 :: u31 :: u32 :: u33 :: u34 :: u35 :: u36 :: u37 :: u38 :: u39 :: u40 :: u41 :: u42 :: u43 :: u44 :: u45 :: u46 :: u47 :: u48 :: u49 :: u50 :: u51 :: u52 :: u53 :: u54 :: u55 :: u56 :: u57 :: u58 :: u59 :: u60 :: u61 :: u62 :: u63 :: u64 :: u65 :: u66 :: u67 :: u68 :: u69 :: u70 :: u71 :: u72 :: u73 :: u74 :: u75 :: u76 :: u77 :: u78 :: u79 :: u80 :: u81 :: u82 :: u83 :: u84 :: u85 :: u86 :: u87 :: u88 :: u89 :: u90 :: u91 :: u92 :: u93 :: u94 :: u95 :: u96 :: u97 :: u98 :: u99 :: u100 :: u101 :: u102 :: u103 :: u104 :: u105 :: u106 :: u107 :: u108 :: u109 :: u110 :: u111 :: u112 :: u113 :: u114 :: u115 :: u116 :: u117 :: u118 :: u119 :: u120 :: u121 :: u122 :: u123 :: u124 :: u125 :: u126 :: u127 :: u128 :: u129 :: u130 :: u131 :: (.int .i64 (m : Int)) :: (.int .i64 0) :: u134 :: u135 :: u136 :: u137 :: u138 :: u139 :: u140 :: u141 :: u142 :: u143 :: u144 :: u145 :: u146 :: u147 :: u148 :: u149 :: u150 :: u151 :: u152 :: u153 :: u154 :: u155 :: u156 :: u157 :: u158 :: u159 :: u160 :: u161 :: u162 :: u163 :: u164 :: u165 :: u166 :: u167 :: u168 :: []).toArray, []⟩ w0 := by
  have Hexit := Lib.hid hexit
  have Hstep := Lib.hid hstep
  have Hpiv := Lib.hid hpiv
  have Hbg := Lib.hid hbg
  have Hsep := Lib.hid hsep
  clear hexit hstep hpiv hbg hsep
  conv => arg 2; arg 1; whnf
  go_loopw [133] (fun i wr => ∃ j : Nat, j ≤ m ∧ i = .int .i64 j ∧ MF b wr (.slice (some ⟨gv, 0, none⟩) m cv) n m m g h G (fun i => if i = q then mixB N M n m x j else F i) ∧ Fr wr g4 mb g5 (.slice (some ⟨gv, 0, none⟩) m cv) ord d cnt D ∧ Bx wr bk [sl (g q) n, sl (h q) m]) (fun i _ => m - (intOf i).toNat)
  case atStart => exact ⟨0, by omega, rfl, hmf, hfr, hbx⟩
  case round =>
    clear hmf hfr hbx
    obtain ⟨j, hj, rfl, hmf, hfr, hbx⟩ := hrel
    by_cases hjn : j < m
    · have cb : ∀ w', Ext wr w' → w'.cell? ⟨bk, 1, none⟩ = some (sl (h q) m) := fun w' he => he.cell (hbx.cell 1 (by simp))
      have c50 : ∀ w', Ext wr w' → w'.cell? ⟨g5, 0, none⟩ = some (.slice (some ⟨gv, 0, none⟩) m cv) := fun w' he => he.cell (hfr.b5.cell 0 (by simp))
      have c53 : ∀ w', Ext wr w' → w'.cell? ⟨g5, 3, none⟩ = some (.int .i64 d) := fun w' he => he.cell (hfr.b5.cell 3 (by simp))
      have cv0' : ∀ w', Ext wr w' → w'.cell? ⟨gv, pn * 2 + 1, none⟩ = some (sl (h pn) m) := fun w' he => he.cell (by
        rw [hmf.own.cell (j := pn * 2 + 1) (by rw [rowCells_len]; omega)]
        exact (rowCells_get n m m g h hpm).2)
      have hlq := hmf.hb q hqm
      rw [if_pos rfl] at hlq
      have hlp := hmf.hb pn hpm
      rw [if_neg hne] at hlp
      have cq : ∀ w', Ext wr w' → w'.cell? ⟨h q, j, none⟩ = some (vint (M x (n + j))) := fun w' he => he.cell (by
        rw [hlq.1.cell (by rw [mixB_length]; exact hjn), getI_mixB hjn])
      have cp : ∀ w', Ext wr w' → w'.cell? ⟨h pn, j, none⟩ = some (vint (piv j)) := fun w' he => he.cell (by
        rw [hlp.1.cell (by rw [hlp.2]; exact hjn), Hpiv.out j hjn])
      have hfq : wr.frozen? ⟨h q, j, none⟩ = false := hlq.1.free (by rw [mixB_length]; unfold maxLen; omega) j
      have hqlt := hlq.1.lt
      have hji : (j : Int) < (m : Int) := by omega
      have hpi : (pn : Int) < (m : Int) := by omega
      have hst := Hstep.out j hjn
      have Hst := Lib.hid hst
      clear hst hlq hlp
      go_wp2
      refine wp_region_calm 22 (fun _ _ v _ => v = .int .i64 (N x (n + j))) (fun _ _ _ _ _ _ h => h) (by kernel_rfl) (by kernel_rfl) ?_
      simp only [List.take_succ_cons, List.take_zero, List.drop_succ_cons, List.drop_zero]
      refine calm_quiet calm_mono_final 21 (by kernel_rfl) ?_
      simp only [List.take_succ_cons, List.take_zero, List.drop_succ_cons, List.drop_zero]
      repeat (go_big_quiet_step (fail))
      refine wpQuiet_nil ?_
      refine calm_call calm_mono_final 95 #[.int .i64 p, .int .i64 (M x (n + j)), .int .i64 cv0, .int .i64 (piv j), .int .i64 d] rfl (fun w => ?_) (fun w he _ => ?_) ?_
      · go_simp
      · exact (Hst.out w).mono fun e w'' ⟨he', hx⟩ => ⟨_, he', hx, rfl⟩
      intro v1 _ _ hv1
      have hv1' : v1 = .int .i64 (N x (n + j)) := hv1
      subst hv1'
      clear hv1
      simp only [Act.put, List.setIfInBounds_toArray, List.set_cons_succ, List.set_cons_zero]
      refine calm_nil fun w3 he3 hF => ?_
      clear hF
      have cq3 := cq w3 he3
      have hf3 : w3.frozen? ⟨h q, j, none⟩ = false := (he3.frozen hqlt).trans hfq
      have hmf3 := (hmf.later he3).storeB hqm (by omega) (by omega) j (N x (n + j))
      rw [if_pos rfl] at hmf3
      have hfr3 := (hfr.later he3).other (p := ⟨h q, j, none⟩) (Hsep.out.h q hqm) (vint (N x (n + j)))
      have hbx3 := (hbx.later he3).other (p := ⟨h q, j, none⟩) (fun e => (Hbg.out q hqm).2 e.symm) (vint (N x (n + j)))
      clear cb c50 c53 cv0' cq cp hfq Hst
      go_wp2
      go_roundw
      case rel =>
        refine ⟨j + 1, by omega, by go_num, hmf3.congr (fun _ _ => rfl) (fun i _ => ?_), hfr3, hbx3⟩
        by_cases e : i = q
        · rw [if_pos e, if_pos e, mixB_set hjn]
        · rw [if_neg e, if_neg e, if_neg e]
      case measure => simp [intOf]; omega
    · obtain rfl : j = m := by omega
      have hx := Hexit.out
      go_wp2
      exact hx _ _ _ _ _ _ _ _ _ _ _ _ _ _ _ _ _ _ _ _ _ _ _ _ _ _ _ _ wr hmf hfr hbx
end Go.Proofs.Ytbclbcldplmppaa

/- solve: the loop over the rows. -/
namespace Go.Proofs.Ytbclbcldplmppaa
open Go.RowKit

set_option maxRecDepth 1000000 in
set_option maxHeartbeats 8000000 in
theorem loopR {u0 u1 u2 u3 u4 u6 u7 u8 u11 u13 u14 u15 u16 u17 u18 u19 u20 u21 u22 u23 u24 u25 u26 u27 u28 u29 u30 u31 u32 u33 u34 u35 u36 u37 u38 u39 u40 u41 u42 u43 u44 u45 u46 u47 u48 u49 u50 u51 u52 u53 u54 u55 u56 u57 u58 u59 u60 u61 u62 u63 u64 u65 u66 u67 u68 u69 u70 u71 u72 u73 u74 u75 u76 u77 u78 u79 u80 u81 u82 u83 u84 u85 u89 u90 u91 u92 u93 u94 u95 u96 u97 u98 u99 u100 u101 u102 u103 u104 u105 u106 u107 u108 u109 u110 u111 u112 u113 u114 u115 u116 u117 u118 u119 u120 u121 u122 u123 u124 u125 u126 u127 u128 u129 u130 u131 u132 u133 u134 u135 u136 u137 u138 u139 u140 u141 u142 u143 u144 u145 u146 u147 u148 u149 u150 u151 u152 u153 u154 u155 u156 u157 u158 u159 u160 u161 u162 u163 u164 u165 u166 u167 u168 : Value} {b w0 : World} {n m pn cc g4 mb g5 gv cv i0 : Nat} {g h σ : Nat → Nat} {N M : Nat → Nat → Int} {p d : Int} {ord : Value} {cnt : Nat} {D : DataW Unit} {Q : Exit → Act → World → Prop}
    (hn : n ≤ 8) (hm : m ≤ 16) (hpm : pn < m) (hcn : cc < n)
    (hstep : ∀ x, x < m → x ≠ i0 → ∀ j, ∀ w' : World, Calls Try.prog 95 #[.int .i64 p, .int .i64 (M x j), .int .i64 (M x cc), .int .i64 (M i0 j), .int .i64 d] w' fun e w'' => e = .returned (.int .i64 (N x j)) ∧ Ext w' w'')
    (hN0 : ∀ j, N i0 j = M i0 j) (hlt : ∀ i, i < m → σ i < m) (hpn : σ pn = i0) (hne : ∀ i, i < m → i ≠ pn → σ i ≠ i0) (hsep : Sep g5 (.slice (some ⟨gv, 0, none⟩) m cv) m g h)
    (hmf : MF b w0 (.slice (some ⟨gv, 0, none⟩) m cv) n m m g h (fun i => if i < 0 then lineOf N n (σ i) else lineOf M n (σ i)) (fun i => if i < 0 then byOf N n m (σ i) else byOf M n m (σ i))) (hfr : Fr w0 g4 mb g5 (.slice (some ⟨gv, 0, none⟩) m cv) ord d cnt D)
    (hexit : ∀ (x13 x14 x15 x16 x17 x88 x89 x90 x91 x92 x93 x94 x95 x96 x97 x98 x99 x100 x101 x102 x103 x104 x105 x106 x107 x108 x109 x110 x111 x112 x113 x114 x115 x116 x117 x118 x119 x120 x121 x122 x123 x124 x125 x126 x127 x128 x129 x130 x131 x132 x133 x134 x135 x136 x137 x138 x139 x140 x141 x142 x143 x144 x145 x146 x147 x148 x149 x150 x151 x152 x153 x154 x155 x156 x157 x158 x159 x160 : Value) (w' : World), MF b w' (.slice (some ⟨gv, 0, none⟩) m cv) n m m g h (fun i => if i < m then lineOf N n (σ i) else lineOf M n (σ i)) (fun i => if i < m then byOf N n m (σ i) else byOf M n m (σ i)) → Fr w' g4 mb g5 (.slice (some ⟨gv, 0, none⟩) m cv) ord d cnt D → Q (.exit 6) ⟨(u0 :: u1 :: u2 :: u3 :: u4 :: (.pointer (some ⟨g5, 0, none⟩)) :: u6 :: u7 :: u8 :: (.int .i64 (cc : Int)) :: (.int .i64 (pn : Int)) :: u11 :: (.int .i64 p) :: (x13) :: (x14) :: (x15) :: (x16) :: (x17) :: u18 :: u19 :: u20 :: u21 :: u22 :: u23 :: u24 :: u25 :: u26 :: u27 :: u28 :: u29 :: u30 :: u31 :: u32 :: u33 :: u34 :: u35 :: u36 :: u37 :: u38 :: u39 :: u40 :: u41 :: u42 :: u43 :: u44 :: u45 :: u46 :: u47 :: u48 :: u49 :: u50 :: u51 :: u52 :: u53 :: u54 :: u55 :: u56 :: u57 :: u58 :: u59 :: u60 :: u61 :: u62 :: u63 :: u64 :: u65 :: u66 :: u67 :: u68 :: u69 :: u70 :: u71 :: u72 :: u73 :: u74 :: u75 :: u76 :: u77 :: u78 :: u79 :: u80 :: u81 :: u82 :: u83 :: u84 :: u85 :: (.slice (some ⟨gv, 0, none⟩) m cv) :: (.int .i64 (m : Int)) :: (x88) :: (x89) :: (x90) :: (x91) :: (x92) :: (x93) :: (x94) :: (x95) :: (x96) :: (x97) :: (x98) :: (x99) :: (x100) :: (x101) :: (x102) :: (x103) :: (x104) :: (x105) :: (x106) :: (x107) :: (x108) :: (x109) :: (x110) :: (x111) :: (x112) :: (x113) :: (x114) :: (x115) :: (x116) :: (x117) :: (x118) :: (x119) :: (x120) :: (x121) :: (x122) :: (x123) :: (x124) :: (x125) :: (x126) :: (x127) :: (x128) :: (x129) :: (x130) :: (x131) :: (x132) :: (x133) :: (x134) :: (x135) :: (x136) :: (x137) :: (x138) :: (x139) :: (x140) :: (x141) :: (x142) :: (x143) :: (x144) :: (x145) :: (x146) :: (x147) :: (x148) :: (x149) :: (x150) :: (x151) :: (x152) :: (x153) :: (x154) :: (x155) :: (x156) :: (x157) :: (x158) :: (x159) :: (x160) :: u161 :: u162 :: u163 :: u164 :: u165 :: u166 :: u167 :: u168 :: []).toArray, []⟩ w') :
    Code.wp Try.prog (Code.loop loop65_6) Q ⟨(u0 :: u1 :: u2 :: u3 :: u4 :: (.pointer (some ⟨g5, 0, none⟩)) :: u6 :: u7 :: u8 :: (.int .i64 (cc : Int)) :: (.int .i64 (pn : Int)) :: u11 :: (.int .i64 p) :: u13 :: u14 :: u15 :: u16 :: u17 :: u18 :: u19 :: u20 :: u21 :: u22 :: u23 :: u24 :: u25 :: u26 :: u27 :: u28 :: u29 :: u30 :: u31 :: u32 :: u33 :: u34 :: u35 :: u36 :: u37 :: u38 :: u39 :: u40 :: u41 :: u42 :: u43 :: u44 :: u45 :: u46 :: u47 :: u48 :: u49 :: u50 :: u51 :: u52 :: u53 :: u54 :: u55 :: u56 :: u57 :: u58 :: u59 :: u60 :: u61 :: u62 :: u63 :: u64 :: u65 :: u66 :: u67 :: u68 :: u69 :: u70 :: u71 :: u72 :: u73 :: u74 :: u75 :: u76 :: u77 :: u78 :: u79 :: u80 :: u81 :: u82 :: u83 :: u84 :: u85 :: (.slice (some ⟨gv, 0, none⟩) m cv) :: (.int .i64 (m : Int)) :: (.int .i64 0) :: u89 :: u90 :: u91 :: u92 :: u93 :: u94 :: u95 :: u96 :: u97 :: u98 :: u99 :: u100 :: u101 :: u102 :: u103 :: u104 :: u105 :: u106 :: u107 :: u108 :: u109 :: u110 :: u111 :: u112 :: u113 :: u114 :: u115 :: u116 :: u117 :: u118 :: u119 :: u120 :: u121 :: u122 :: u123 :: u124 :: u125 :: u126 :: u127 :: u128 :: u129 :: u130 :: u131 :: u132 :: u133 :: u134 :: u135 :: u136 :: u137 :: u138 :: u139 :: u140 :: u141 :: u142 :: u143 :: u144 :: u145 :: u146 :: u147 :: u148 :: u149 :: u150 :: u151 :: u152 :: u153 :: u154 :: u155 :: u156 :: u157 :: u158 :: u159 :: u160 :: u161 :: u162 :: u163 :: u164 :: u165 :: u166 :: u167 :: u168 :: []).toArray, []⟩ w0 := by
  have Hexit := Lib.hid hexit
  have Hstep := Lib.hid hstep
  have HN0 := Lib.hid hN0
  have Hlt := Lib.hid hlt
  have Hpn := Lib.hid hpn
  have Hne := Lib.hid hne
  have Hsep := Lib.hid hsep
  clear hexit hstep hN0 hlt hpn hne hsep
  conv => arg 2; arg 1; whnf
  go_loopw [88] (fun i wr => ∃ q : Nat, q ≤ m ∧ i = .int .i64 q ∧ MF b wr (.slice (some ⟨gv, 0, none⟩) m cv) n m m g h (fun i => if i < q then lineOf N n (σ i) else lineOf M n (σ i)) (fun i => if i < q then byOf N n m (σ i) else byOf M n m (σ i)) ∧ Fr wr g4 mb g5 (.slice (some ⟨gv, 0, none⟩) m cv) ord d cnt D) (fun i _ => m - (intOf i).toNat)
  case atStart => exact ⟨0, by omega, rfl, hmf, hfr⟩
  case round =>
    clear hmf hfr
    obtain ⟨wq, rfl⟩ : ∃ wq : World, wq = wr := ⟨_, rfl⟩
    obtain ⟨q, hq, rfl, hmf, hfr⟩ := hrel
    by_cases hqm : q < m
    · have r0 : wq.cell? ⟨gv, q * 2, none⟩ = some (sl (g q) n) := by
        rw [hmf.own.cell (j := q * 2) (by rw [rowCells_len]; omega)]
        exact (rowCells_get n m m g h hqm).1
      have r1 : wq.cell? ⟨gv, q * 2 + 1, none⟩ = some (sl (h q) m) := by
        rw [hmf.own.cell (j := q * 2 + 1) (by rw [rowCells_len]; omega)]
        exact (rowCells_get n m m g h hqm).2
      have c50 : wq.cell? ⟨g5, 0, none⟩ = some (.slice (some ⟨gv, 0, none⟩) m cv) := hfr.b5.cell 0 (by simp)
      have hqi : (q : Int) < (m : Int) := by omega
      by_cases e : q = pn
      · have hb : ((q : Int) == (pn : Int)) = true := by simp; omega
        have E := Lib.hid e
        clear e
        go_wp2
        go_roundw
        case rel =>
          have e := E.out
          refine ⟨q + 1, by omega, by go_num, (hmf.congr (fun i hi => ?_) (fun i hi => ?_)).later (by simp), hfr.later (by simp)⟩
          · by_cases e1 : i < q
            · rw [if_pos e1, if_pos (by omega)]
            · by_cases e2 : i = q
              · rw [if_neg e1, if_pos (by omega), e2, e, Hpn.out]
                exact List.map_congr_left fun j _ => (HN0.out j).symm
              · rw [if_neg e1, if_neg (by omega)]
          · by_cases e1 : i < q
            · rw [if_pos e1, if_pos (by omega)]
            · by_cases e2 : i = q
              · rw [if_neg e1, if_pos (by omega), e2, e, Hpn.out]
                exact List.map_congr_left fun j _ => (HN0.out _).symm
              · rw [if_neg e1, if_neg (by omega)]
        case measure => simp [intOf]; omega
      · have hb : ((q : Int) == (pn : Int)) = false := by simp; omega
        have hmf1 := hmf.later (w' := wq.alloc (.cells #[sl (g q) n, sl (h q) m] 117)) ((Ext.refl _).alloc _)
        have hfr1 := hfr.later (w' := wq.alloc (.cells #[sl (g q) n, sl (h q) m] 117)) ((Ext.refl _).alloc _)
        have hbx1 : Bx (wq.alloc (.cells #[sl (g q) n, sl (h q) m] 117)) wq.heap.size [sl (g q) n, sl (h q) m] := Bx.of_heap (heap_alloc_new _ _)
        have hx0 : ∀ w', Ext (wq.alloc (.cells #[sl (g q) n, sl (h q) m] 117)) w' → w'.cell? ⟨wq.heap.size, 0, none⟩ = some (sl (g q) n) := fun w' he => he.cell (hbx1.cell 0 (by simp))
        have hbg : ∀ k, k < m → wq.heap.size ≠ g k ∧ wq.heap.size ≠ h k := fun k hk => by
          have h1 := (hmf.gl k hk).1.lt
          have h2 := (hmf.hb k hk).1.lt
          omega
        have hlq := (hmf1.gl q hqm).1
        rw [if_neg (Nat.lt_irrefl q)] at hlq
        have hat := at_any (some ⟨g q, 0, none⟩) n cc (lineOf M n (σ q)) _ hlq.ints (by rw [lineOf_length]; exact hcn)
        rw [lineOf_length, getI_lineOf hcn] at hat
        have Hat := Lib.hid hat
        have E := Lib.hid e
        have Hbg := Lib.hid hbg
        clear hat hlq e hbg
        go_wp2_with (go_at_call 78; refine Hat.out.mono ?_; rintro e w' ⟨rfl, rfl⟩)
        have hxq : σ q < m := Hlt.out q hqm
        have hxn : σ q ≠ i0 := Hne.out q hqm E.out
        refine loopL (b := b) (n := n) (m := m) (pn := pn) (q := q) (g4 := g4) (mb := mb) (gv := gv) (cv := cv) (x := σ q) (g := g) (h := h) (N := N) (M := M) (F := fun i => if i < q then lineOf N n (σ i) else lineOf M n (σ i)) (G := fun i => if i < q then byOf N n m (σ i) else byOf M n m (σ i)) (piv := fun j => M i0 j) (d := d) (ord := ord) (cnt := cnt) (D := D)
          hn hm hqm hpm (fun e => E.out e.symm) (fun j _ w' => Hstep.out _ hxq hxn j w') (fun j hj => ?_) Hbg.out Hsep.out (hmf1.congr (fun i _ => ?_) (fun _ _ => rfl)) hfr1 hbx1 ?_
        · split
          · rw [Hpn.out, getI_lineOf hj, HN0.out]
          · rw [Hpn.out, getI_lineOf hj]
        · by_cases e : i = q
          · rw [if_pos e, e, if_neg (Nat.lt_irrefl q), mixL_zero]
          · rw [if_neg e]
        intro x16 x103 x104 x105 x106 x107 x108 x109 x110 x111 x112 x113 x114 x115 x116 x117 x118 x119 x120 x121 x122 x123 x124 x125 x126 x127 x128 x129 w8 hmf8 hfr8 hbx8
        have hx1 : w8.cell? ⟨wq.heap.size, 1, none⟩ = some (sl (h q) m) := hbx8.cell 1 (by simp)
        go_wp2
        refine loopB (b := b) (n := n) (m := m) (pn := pn) (q := q) (g4 := g4) (mb := mb) (gv := gv) (cv := cv) (x := σ q) (g := g) (h := h) (N := N) (M := M) (F := fun i => if i < q then byOf N n m (σ i) else byOf M n m (σ i)) (G := fun i => if i = q then mixL N M n (σ q) n else if i < q then lineOf N n (σ i) else lineOf M n (σ i)) (piv := fun j => M i0 (n + j)) (d := d) (ord := ord) (cnt := cnt) (D := D)
          hn hm hqm hpm (fun e => E.out e.symm) (fun j _ w' => Hstep.out _ hxq hxn (n + j) w') (fun j hj => ?_) Hbg.out Hsep.out (hmf8.congr (fun _ _ => rfl) (fun i _ => ?_)) hfr8 hbx8 ?_
        · split
          · rw [Hpn.out, getI_byOf hj, HN0.out]
          · rw [Hpn.out, getI_byOf hj]
        · by_cases e : i = q
          · rw [if_pos e, e, if_neg (Nat.lt_irrefl q), mixB_zero]
          · rw [if_neg e]
        intro y17 y133 y134 y135 y136 y137 y138 y139 y140 y141 y142 y143 y144 y145 y146 y147 y148 y149 y150 y151 y152 y153 y154 y155 y156 y157 y158 y159 w9 hmf9 hfr9 hbx9
        go_wp2
        go_roundw
        case rel =>
          refine ⟨q + 1, by omega, by go_num, hmf9.congr (fun i _ => ?_) (fun i _ => ?_), hfr9⟩
          · by_cases e1 : i = q
            · rw [if_pos e1, if_pos (by omega), mixL_all, e1]
            · rw [if_neg e1]
              by_cases e2 : i < q
              · rw [if_pos e2, if_pos (by omega)]
              · rw [if_neg e2, if_neg (by omega)]
          · by_cases e1 : i = q
            · rw [if_pos e1, if_pos (by omega), mixB_all, e1]
            · rw [if_neg e1]
              by_cases e2 : i < q
              · rw [if_pos e2, if_pos (by omega)]
              · rw [if_neg e2, if_neg (by omega)]
        case measure => simp [intOf]; omega
    · obtain rfl : q = m := by omega
      have hx := Hexit.out
      go_wp2
      exact hx _ _ _ _ _ _ _ _ _ _ _ _ _ _ _ _ _ _ _ _ _ _ _ _ _ _ _ _ _ _ _ _ _ _ _ _ _ _ _ _ _ _ _ _ _ _ _ _ _ _ _ _ _ _ _ _ _ _ _ _ _ _ _ _ _ _ _ _ _ _ _ _ _ _ _ _ _ _ wq hmf hfr
end Go.Proofs.Ytbclbcldplmppaa

/- solve: the walk. -/
namespace Go.Proofs.Ytbclbcldplmppaa
open Go.RowKit

/-- What solve hands back. -/
def SolveRes (w : World) (n m : Nat) (A0 : Nat → Nat → Int) (cols : List Nat) (ordv : Value) (e : Ending) (w' : World) : Prop :=
  ∃ v mb g h σ pv M d D, e = .returned (.agg #[v, .map (some mb), ordv, .int .i64 d]) ∧ SolSt A0 n m cols σ pv M d ∧
    MF w w' v n m m g h (fun k => lineOf M n (σ k)) (fun k => byOf M n m (σ k)) ∧ MapI w' mb pv.length D ∧ MapIs D (colsP pv) ∧ w.heap.size ≤ mb

set_option maxRecDepth 100000 in
set_option maxHeartbeats 8000000 in
theorem solve_any (Ad : Option Addr) (c n m : Nat) (A0 : Nat → Nat → Int) (Or : Option Addr) (oc : Nat) (cols : List Nat) (w : World) (hA : RIn w Ad n m (fun k => lineOf A0 n k) (fun k => byOf A0 n m k)) (hO : Ints w Or (cols.map fun (c : Nat) => (c : Int)))
    (hc : ∀ c ∈ cols, c < n) (hcl : cols.length ≤ 1000) (hn : n ≤ 8) (hm : m ≤ 16) (h97 : ∀ x, x < m → ∀ C : List Nat, C.Nodup → S C (fun j => ((A0 x j).natAbs : Int)) ≤ 97) :
    Calls Try.prog 65 #[.slice Ad m c, .slice Or cols.length oc] w (SolveRes w n m A0 cols (.slice Or cols.length oc)) := by
  have ho1 : ∀ t (ht : t < cols.length), ∃ od, Or = some od ∧ ∀ w', Ext w w' → w'.cell? (od.add t) = some (.int .i64 (cols[t] : Int)) := fun t ht => by
    obtain ⟨od, h1, h2⟩ := hO.some_ (by simp; omega)
    refine ⟨od, h1, fun w' he => ?_⟩
    have := h2 t (by simpa using ht) w' he
    rw [this, getI_eq (by simpa using ht)]
    simp
  have HO := Lib.hid ho1
  have Hc := Lib.hid hc
  have H97 := Lib.hid h97
  clear hO ho1 hc h97
  have hstart := SolSt.start A0 n m
  have Hstart := Lib.hid hstart
  clear hstart
  obtain ⟨ol, hol⟩ : ∃ ol, ol = cols.length := ⟨_, rfl⟩
  rw [← hol]
  rw [← hol] at hcl
  have Hol := Lib.hid hol
  clear hol
  have HA := Lib.hid hA
  clear hA
  have hmm := @run_makeMap Try.prog
  go_enter Try.func65, Try.ntmps65
  go_wp2
  go_step3
  go_wp2
  clear hmm
  have hfr : Fr (((w.alloc (.cells #[.slice none 0 0, .map none, .slice none 0 0, .int .i64 0] 101)).alloc (.map #[] 0)).alloc (.cells #[.slice none 0 0, .map (some (w.heap.size + 1)), .slice Or ol oc, .int .i64 1] 101)) w.heap.size (w.heap.size + 1) (w.heap.size + 1 + 1) (.slice none 0 0) (.slice Or ol oc) 1 0 (.map []) := by
    refine ⟨?_, ?_, ?_, by omega, by omega⟩
    · exact ((Bx.of_heap (t := 101) (heap_alloc_new _ _)).later ((Ext.refl _).alloc _)).later ((Ext.refl _).alloc _)
    · have hs : ((w.alloc (.cells #[.slice none 0 0, .map none, .slice none 0 0, .int .i64 0] 101)).alloc (.map #[] 0)).heap.size = w.heap.size + 1 + 1 := by simp only [World.alloc, Array.size_push]
      have := Bx.of_heap (heap_alloc_new ((w.alloc (.cells #[.slice none 0 0, .map none, .slice none 0 0, .int .i64 0] 101)).alloc (.map #[] 0)) (.cells #[.slice none 0 0, .map (some (w.heap.size + 1)), .slice Or ol oc, .int .i64 1] 101))
      rw [hs] at this
      exact this
    · have hs : (w.alloc (.cells #[.slice none 0 0, .map none, .slice none 0 0, .int .i64 0] 101)).heap.size = w.heap.size + 1 := by simp only [World.alloc, Array.size_push]
      have := (World.ownsMap_made (H := Unit) (w.alloc (.cells #[.slice none 0 0, .map none, .slice none 0 0, .int .i64 0] 101)) Try.prog 3 (plainElem Try.prog 3)).alloc (.cells #[.slice none 0 0, .map (some (w.heap.size + 1)), .slice Or ol oc, .int .i64 1] 101)
      rw [hs] at this
      exact this
  have hexi : Ext w (((w.alloc (.cells #[.slice none 0 0, .map none, .slice none 0 0, .int .i64 0] 101)).alloc (.map #[] 0)).alloc (.cells #[.slice none 0 0, .map (some (w.heap.size + 1)), .slice Or ol oc, .int .i64 1] 101)) := (((Ext.refl _).alloc _).alloc _).alloc _
  have h4w : w.heap.size ≤ w.heap.size := Nat.le_refl _
  generalize (((w.alloc (.cells #[.slice none 0 0, .map none, .slice none 0 0, .int .i64 0] 101)).alloc (.map #[] 0)).alloc (.cells #[.slice none 0 0, .map (some (w.heap.size + 1)), .slice Or ol oc, .int .i64 1] 101)) = wi at *
  generalize hg5 : w.heap.size + 1 + 1 = g5 at *
  generalize hmb : w.heap.size + 1 = mb at *
  generalize hg4 : w.heap.size = g4 at *
  have H45 := Lib.hid (show g4 + 1 = mb ∧ mb + 1 = g5 ∧ w.heap.size = g4 from ⟨hmb, hg5, hg4⟩)
  clear hg5 hmb hg4 h4w
  go_loopw [23] (fun i wr => ∃ k : Nat, k ≤ m ∧ i = .int .i64 k ∧ ∃ v g h, MF w wr v n m k g h (fun k => lineOf A0 n k) (fun k => byOf A0 n m k) ∧ Fr wr g4 mb g5 v (.slice Or ol oc) 1 0 (.map []) ∧ Sep g5 v k g h) (fun i _ => m - (intOf i).toNat)
  case atStart => exact ⟨0, by omega, rfl, _, fun _ => 0, fun _ => 0, MF.start hexi _ _ _ _ _ _, hfr, ⟨fun k hk => (by cases hk), fun k hk => by omega, fun k hk => by omega⟩⟩
  case round =>
    clear hfr hexi
    obtain ⟨wo, rfl⟩ : ∃ wo : World, wo = wr := ⟨_, rfl⟩
    obtain ⟨k, hk, rfl, v, g, h, hmf, hfr, hsep⟩ := hrel
    by_cases hlt : k < m
    · obtain ⟨ad, A1, A2, rfl, q0, q1, i1, i2, l1, l2⟩ := HA.out k hlt
      obtain ⟨Av, cv, rfl⟩ := hmf.own.form
      have q0 := q0 wo hmf.ext
      have q1 := q1 wo hmf.ext
      have i1 : ∀ w', Ext wo w' → Ints w' A1 (lineOf A0 n k) := fun w' he => i1 w' (hmf.ext.trans he)
      have i2 : ∀ w', Ext wo w' → Ints w' A2 (byOf A0 n m k) := fun w' he => i2 w' (hmf.ext.trans he)
      have t1 := fun (w' : World) (he : Ext wo w') => twin_any A1 n (lineOf A0 n k) w' (i1 w' he) (by rw [lineOf_length]; omega)
      have t2 := fun (w' : World) (he : Ext wo w') => twin_any A2 m (byOf A0 n m k) w' (i2 w' he) (by rw [byOf_length]; omega)
      rw [l1] at t1
      rw [l2] at t2
      have T1 := Lib.hid t1
      have T2 := Lib.hid t2
      have L1 := Lib.hid l1
      have L2 := Lib.hid l2
      clear t1 t2 i1 i2 l1 l2
      have c50 : ∀ w', Ext wo w' → w'.cell? ⟨g5, 0, none⟩ = some (.slice Av k cv) := fun w' he => he.cell (hfr.b5.cell 0 (by simp))
      have hx0 : ∀ w', Ext (wo.alloc (.cells #[.slice A1 n n, .slice A2 m m] 117)) w' → w'.cell? ⟨wo.heap.size, 0, none⟩ = some (.slice A1 n n) := fun w' he => he.cell (by simp)
      have hx1 : ∀ w', Ext (wo.alloc (.cells #[.slice A1 n n, .slice A2 m m] 117)) w' → w'.cell? ⟨wo.heap.size, 1, none⟩ = some (.slice A2 m m) := fun w' he => he.cell (by simp)
      go_wp2
      have hx00 : Ext wo (wo.alloc (.cells #[.slice A1 n n, .slice A2 m m] 117)) := (Ext.refl _).alloc _
      generalize wo.alloc (.cells #[.slice A1 n n, .slice A2 m m] 117) = w0 at *
      have c50 : ∀ w', Ext w0 w' → _ := fun w' he => c50 w' (hx00.trans he)
      refine Cf.wp_region_calm (p := Cf.extPre) (fr := fun j => j == 4 || j == 7) 10 (fun j _ v w => ∃ xs, xs = (bif j == 4 then lineOf A0 n k else byOf A0 n m k) ∧ ∃ g, v = sl g xs.length ∧ NewInts w0 w g xs) (fun _ _ _ _ _ he ⟨xs, hxs, g, hg, hn⟩ => ⟨xs, hxs, g, hg, hn.later he⟩) (by kernel_rfl) (by kernel_rfl) ?_
      simp only [List.take_succ_cons, List.take_zero, List.drop_succ_cons, List.drop_zero]
      refine Cf.calm_quiet Cf.calm_mono_final w0 (fun _ h => h) 4 (by kernel_rfl) ?_
      simp only [List.take_succ_cons, List.take_zero, List.drop_succ_cons, List.drop_zero]
      repeat (go_big_quiet_step (fail))
      refine wpQuiet_nil ?_
      refine Cf.calm_call Cf.calm_mono_final 94 #[.slice A1 n n] rfl (fun w => ?_) (fun w he _ => ?_) ?_
      · go_simp
      · refine (T1.out w (hx00.trans he)).mono fun e w'' h => ?_
        obtain ⟨g, rfl, hn⟩ := h
        exact ⟨_, rfl, hn.ext, ⟨_, rfl, g, rfl, hn.since he⟩, fun _ => hn.new⟩
      rintro v4 w' _ ⟨xs, hxs, g0, rfl, _⟩ _
      have hxs' : xs = lineOf A0 n k := hxs
      subst hxs'
      clear hxs
      simp only [Act.put, List.setIfInBounds_toArray, List.set_cons_succ, List.set_cons_zero]
      refine Cf.calm_quiet Cf.calm_mono_final w0 (fun _ h => h) 2 (by kernel_rfl) ?_
      simp only [List.take_succ_cons, List.take_zero, List.drop_succ_cons, List.drop_zero]
      repeat (go_big_quiet_step (fail))
      refine wpQuiet_nil ?_
      refine Cf.calm_call Cf.calm_mono_final 94 #[.slice A2 m m] rfl (fun w => ?_) (fun w he _ => ?_) ?_
      · go_simp
      · refine (T2.out w (hx00.trans he)).mono fun e w'' h => ?_
        obtain ⟨g, rfl, hn⟩ := h
        exact ⟨_, rfl, hn.ext, ⟨_, rfl, g, rfl, hn.since he⟩, fun _ => hn.new⟩
      rintro v7 w'' _ ⟨xs, hxs, h0, rfl, _⟩ hfar
      have hxs' : xs = byOf A0 n m k := hxs
      subst hxs'
      clear hxs
      have hgh : g0 ≠ h0 := by
        have := hfar rfl (sl g0 (lineOf A0 n k).length) (.inr ⟨rfl, rfl⟩)
        simpa [sl, Value.ownBlock] using this
      clear hfar
      simp only [Act.put, List.setIfInBounds_toArray, List.set_cons_succ, List.set_cons_zero]
      have hl1 : (lineOf A0 n k).length = n := L1.out
      have hl2 : (byOf A0 n m k).length = m := L2.out
      refine Cf.calm_value Cf.calm_mono_final (fun v _ => v = .agg #[sl g0 (lineOf A0 n k).length, sl h0 (byOf A0 n m k).length]) (fun _ _ _ _ h => h) rfl (fun w he _ => ⟨_, w, by go_simp, Ext.refl w, rfl, fun hf => by cases hf⟩) ?_
      rintro v8 _ _ rfl _
      simp only [Act.put, List.setIfInBounds_toArray, List.set_cons_succ, List.set_cons_zero]
      refine Cf.calm_value Cf.calm_mono_final (fun v w => ∃ b, v = sl b 1 ∧ w.heap[b]? = some (.cells #[sl g0 (lineOf A0 n k).length, sl h0 (byOf A0 n m k).length] 117)) (fun _ _ _ he ⟨b, e, hh⟩ => ⟨b, e, Ext.heap he hh⟩) rfl (fun w he _ => ⟨sl w.heap.size 1, w.alloc (.cells #[sl g0 (lineOf A0 n k).length, sl h0 (byOf A0 n m k).length] 117), by go_simp, (Ext.refl w).alloc _, ⟨_, rfl, heap_alloc_new _ _⟩, fun hf => by cases hf⟩) ?_
      rintro v9 _ _ ⟨bs, rfl, _⟩ _
      simp only [Act.put, List.setIfInBounds_toArray, List.set_cons_succ, List.set_cons_zero]
      refine Cf.calm_nil fun w3 he3 hF => ?_
      obtain ⟨xs, hxs, g', eg, hg⟩ := (hF.1 4).1.1.1.2 rfl
      have hxs' : xs = lineOf A0 n k := hxs
      subst hxs'
      clear hxs
      obtain ⟨xs, hxs, h', eh, hh⟩ := (hF.1 7).1.1.2 rfl
      have hxs' : xs = byOf A0 n m k := hxs
      subst hxs'
      clear hxs
      obtain ⟨b', eb, hbs⟩ := (hF.1 9).2 rfl
      simp only [sl, Value.slice.injEq, Option.some.injEq, Addr.mk.injEq, and_true] at eg eh eb
      subst eg eh eb
      clear hF
      rw [hl1, hl2] at *
      have hx03 : Ext wo w3 := hx00.trans he3
      have hown3 := hmf.own.later hx03
      have hrow := row_heap hbs
      have hfr3 := hfr.later hx03
      go_wp2_with (
        (refine own_append_at (w1 := w) row_elem rfl _ _ 98 rfl Try.underlying98 _ k (rowCells n m k g h) rfl hown3 _ 1 1 _ rfl rfl hrow (by intro u hu; simp at hu; rcases hu with rfl | rfl <;> rfl) (by omega) (by unfold maxLen; omega) ?_; intro v' w4 ho hgr hob; obtain ⟨Av', cv', rfl⟩ := ho.form; have hfr4 := hfr3.grown hgr (fun k' e => hsep.v k' e); have c54 := hfr4.b5.cell 0 (by simp); have f54 := hfr4.b5.free 0))
      have hlt5 : g5 < wo.heap.size := hfr.b5.lt
      have hmf4 := hmf.append hx03 (hg.since hx00) (hh.since hx00) hgh L1.out L2.out ho hgr rfl rfl
      have hsep4 : Sep g5 (.slice Av' (k + 1) cv') (k + 1) (fun i => if i = k then g0 else g i) (fun i => if i = k then h0 else h i) := by
        have b1 := hx00.le
        have b2 := hg.2.1
        have b3 := hh.2.1
        have b4 := hx03.le
        refine ⟨fun i hi => ?_, fun i hi => ?_, fun i hi => ?_⟩
        · rcases hob with e | e
          · exact hsep.v i (e ▸ hi)
          · rw [e] at hi; injection hi with hi; omega
        · by_cases e : i = k
          · rw [if_pos e]; omega
          · rw [if_neg e]; exact hsep.g i (by omega)
        · by_cases e : i = k
          · rw [if_pos e]; omega
          · rw [if_neg e]; exact hsep.h i (by omega)
      have hmf5 := hmf4.other (p := ⟨g5, 0, none⟩) (by omega) (by omega) (by have := H45.out; simp only; omega) (fun e => absurd (hsep4.v g5 e) (Nat.lt_irrefl _)) (fun i hi => by have := hsep4.g i hi; simp only; omega) (fun i hi => by have := hsep4.h i hi; simp only; omega) (.slice Av' (k + 1) cv')
      have hfr5 := hfr4.setRows (.slice Av' (k + 1) cv')
      go_roundw
      case rel => exact ⟨k + 1, by omega, by go_num, _, _, _, hmf5, hfr5, hsep4⟩
      case measure => simp [intOf]; omega
    · obtain rfl : m = k := by omega
      clear HA
      obtain ⟨Av, cv, rfl⟩ := hmf.own.form
      go_wp2
      go_step3
      go_wp2
      have hst := Hstart.out
      clear hk hlt
      go_loopw [42] (fun i wr => ∃ t : Nat, t ≤ ol ∧ i = .int .i64 t ∧ ∃ v g h σ pv M d D, SolSt A0 n m (cols.take t) σ pv M d ∧
        MF w wr v n m m g h (fun k => lineOf M n (σ k)) (fun k => byOf M n m (σ k)) ∧ Fr wr g4 mb g5 v (.slice Or ol oc) d pv.length D ∧ Sep g5 v m g h ∧ MapIs D (colsP pv)) (fun i _ => ol - (intOf i).toNat)
      case atStart => exact ⟨0, by omega, rfl, _, _, _, _, _, _, _, _, by rw [List.take_zero]; exact hst, hmf, hfr, hsep, MapIs.start⟩
      case round =>
        clear hst hmf hfr hsep
        clear wo Av cv g h
        obtain ⟨wo, rfl⟩ : ∃ wo : World, wo = wr := ⟨_, rfl⟩
        obtain ⟨t, ht, rfl, v, g, h, σ, pv, M, d, D, hsol, hmf, hfr, hsep, hmap⟩ := hrel
        obtain ⟨Av, cv, rfl⟩ := hmf.own.form
        by_cases htl : t < ol
        · have htc : t < cols.length := by rw [← Hol.out]; exact htl
          obtain ⟨od, rfl, hod⟩ := HO.out t htc
          have hod := hod wo hmf.ext
          have hcn := Hc.out cols[t] (List.getElem_mem htc)
          have htake : cols.take (t + 1) = cols.take t ++ [cols[t]] := List.take_succ_eq_append_getElem htc
          have Htake := Lib.hid htake
          clear htake
          generalize cols[t] = cc at *
          have hsz : Maps.size D = pv.length := by rw [hmap.size]; simp [colsP]
          have c51 : wo.cell? ⟨g5, 1, none⟩ = some (.map (some mb)) := hfr.b5.cell 1 (by simp)
          have c50 : wo.cell? ⟨g5, 0, none⟩ = some (.slice Av m cv) := hfr.b5.cell 0 (by simp)
          have hle := hsol.le
          have Hsol := Lib.hid hsol
          have Hmap := Lib.hid hmap
          clear hsol hmap
          go_wp2_with (refine wpList_len_own _ rfl _ 99 rfl 3 3 Try.underlying99 _ mb pv.length D rfl hfr.mp ?_; rw [hsz])
          go_loop [11] (fun i => ∃ k : Nat, pv.length ≤ k ∧ k ≤ m ∧ i = .int .i64 k ∧ ∀ j, pv.length ≤ j → j < k → M (σ j) cc = 0) (fun i => m - (intOf i).toNat)
          case atStart => exact ⟨pv.length, by omega, hle, rfl, fun j h1 h2 => by omega⟩
          case round =>
            obtain ⟨k, hk1, hk2, rfl, hz⟩ := hrel
            have Hz := Lib.hid hz
            clear hz
            by_cases hkm : k < m
            · obtain ⟨gv, cv', hv, hgv⟩ := hmf.own.at_ (by omega)
              simp only [Value.slice.injEq, true_and] at hv
              obtain ⟨rfl, rfl⟩ := hv
              have r0 : wo.cell? ⟨gv, k * 2, none⟩ = some (sl (g k) n) := by
                rw [hmf.own.cell (j := k * 2) (by rw [rowCells_len]; omega)]
                exact (rowCells_get n m m g h hkm).1
              have r1 : wo.cell? ⟨gv, k * 2 + 1, none⟩ = some (sl (h k) m) := by
                rw [hmf.own.cell (j := k * 2 + 1) (by rw [rowCells_len]; omega)]
                exact (rowCells_get n m m g h hkm).2
              have hat := at_any (some ⟨g k, 0, none⟩) n cc (lineOf M n (σ k)) wo (hmf.gl k hkm).1.ints (by rw [lineOf_length]; exact hcn)
              rw [lineOf_length, getI_lineOf hcn] at hat
              have Hat := Lib.hid hat
              clear hat
              have hki : (k : Int) < (m : Int) := by omega
              by_cases hp : M (σ k) cc = 0
              · rw [hp] at Hat
                have Hp := Lib.hid hp
                clear hp
                go_wp2_with (go_at_call 78; refine Hat.out.mono ?_; rintro e w' ⟨rfl, rfl⟩)
                go_round
                case rel => exact ⟨k + 1, by omega, by omega, by go_num, fun j h1 h2 => by
                  by_cases e : j = k
                  · subst e; exact Hp.out
                  · exact Hz.out j h1 (by omega)⟩
                case measure => simp [intOf]; omega
              · have hpb : (M (σ k) cc == 0) = false := by simpa using hp
                go_wp2_with (go_at_call 78; refine Hat.out.mono ?_; rintro e w' ⟨rfl, rfl⟩)
                have hpm : pv.length < m := by omega
                obtain ⟨pn, hpn⟩ : ∃ pn, pn = pv.length := ⟨_, rfl⟩
                rw [← hpn] at hpm hk1 hfr ⊢
                have Hpn := Lib.hid hpn
                have p0 : wo.cell? ⟨gv, pn * 2, none⟩ = some (sl (g pn) n) := by
                  rw [hmf.own.cell (j := pn * 2) (by rw [rowCells_len]; omega)]
                  exact (rowCells_get n m m g h hpm).1
                have p1 : wo.cell? ⟨gv, pn * 2 + 1, none⟩ = some (sl (h pn) m) := by
                  rw [hmf.own.cell (j := pn * 2 + 1) (by rw [rowCells_len]; omega)]
                  exact (rowCells_get n m m g h hpm).2
                have hfz : ∀ j, wo.frozen? ⟨gv, j, none⟩ = false := fun j => hmf.own.free j
                have hg5v : g5 ≠ gv := fun e => by have := hsep.v gv rfl; omega
                have hpni : (pn : Int) < (m : Int) := by omega
                clear hpn hsz hle
                have s1 : (wo.setCell ⟨gv, pn * 2, none⟩ (sl (g k) n)).cell? ⟨gv, pn * 2 + 1, none⟩ = some (sl (h pn) m) := by
                  rw [World.cell?_setCell_other _ _ _ _ (by simp)]; exact p1
                have some_of : ∀ (W : World) (x y : Nat) (u : Value), (∃ z, W.cell? ⟨gv, y, none⟩ = some z) → ∃ z, (W.setCell ⟨gv, x, none⟩ u).cell? ⟨gv, y, none⟩ = some z := fun W x y u ⟨z, hz⟩ => by
                  by_cases e : x = y
                  · subst e; exact ⟨u, World.cell?_setCell_same _ _ _ hz⟩
                  · exact ⟨z, by rw [World.cell?_setCell_other _ _ _ _ (by simp)]; exact hz⟩
                obtain ⟨z2, s2⟩ := some_of _ (pn * 2 + 1) (k * 2) (sl (h k) m) (some_of wo (pn * 2) (k * 2) (sl (g k) n) ⟨_, r0⟩)
                obtain ⟨z3, s3⟩ := some_of _ (k * 2) (k * 2 + 1) (sl (g pn) n) (some_of _ (pn * 2 + 1) (k * 2 + 1) (sl (h k) m) (some_of wo (pn * 2) (k * 2 + 1) (sl (g k) n) ⟨_, r1⟩))
                clear some_of
                go_region
                have hmfS := (hmf.swap (σ := σ) (F := fun x => lineOf M n x) (G := fun x => byOf M n m x) hpm hkm (by omega) (by omega)).later (Ext.refl _).drew
                have hfrS := ((((hfr.other (p := ⟨gv, pn * 2, none⟩) (hsep.v gv rfl) (sl (g k) n)).other (p := ⟨gv, pn * 2 + 1, none⟩) (hsep.v gv rfl) (sl (h k) m)).other (p := ⟨gv, k * 2, none⟩) (hsep.v gv rfl) (sl (g pn) n)).other (p := ⟨gv, k * 2 + 1, none⟩) (hsep.v gv rfl) (sl (h pn) m)).later (Ext.refl _).drew
                have hsepS : Sep g5 (.slice (some ⟨gv, 0, none⟩) m cv) m (swapF g pn k) (swapF h pn k) := ⟨hsep.v, fun i hi => by
                  obtain ⟨i', hi', e⟩ := swapF_lt (σ := g) hpm hkm hi
                  rw [e]; exact hsep.g i' hi', fun i hi => by
                  obtain ⟨i', hi', e⟩ := swapF_lt (σ := h) hpm hkm hi
                  rw [e]; exact hsep.h i' hi'⟩
                generalize ((((wo.setCell ⟨gv, pn * 2, none⟩ (sl (g k) n)).setCell ⟨gv, pn * 2 + 1, none⟩ (sl (h k) m)).setCell ⟨gv, k * 2, none⟩ (sl (g pn) n)).setCell ⟨gv, k * 2 + 1, none⟩ (sl (h pn) m)).drew = ws at hmfS hfrS ⊢
                clear s1 s2 s3 p0 p1 r0 r1 hfz c50 c51 hmf hfr hsep z2 z3 hod hpb hki
                generalize swapF g pn k = g' at hmfS hsepS
                generalize swapF h pn k = h' at hmfS hsepS
                obtain ⟨σ', hσ'⟩ : ∃ σ', σ' = swapF σ pn k := ⟨_, rfl⟩
                rw [← hσ'] at hmfS
                have c50 : ws.cell? ⟨g5, 0, none⟩ = some (.slice (some ⟨gv, 0, none⟩) m cv) := hfrS.b5.cell 0 (by simp)
                go_wp2
                clear c50
                have hsol := Hsol.out
                have hpl : pv.length ≤ k := by rw [← Hpn.out]; exact hk1
                obtain ⟨N, hN⟩ : ∃ N, N = newM M d (σ k) cc := ⟨_, rfl⟩
                obtain ⟨i0, hi0⟩ : ∃ i0, i0 = σ k := ⟨_, rfl⟩
                have hnew := hsol.pivot (i := k) hpl hkm hcn hp
                have hl8 : (pv ++ [(σ k, cc)]).length ≤ 8 := Nat.le_trans hnew.le_n hn
                have bM := hsol.bar.small H97.out hsol.cnd (Nat.le_trans hsol.le_n hn)
                have bN := hnew.bar.small H97.out hnew.cnd hl8
                have hst : ∀ x, x < m → x ≠ i0 → ∀ j (w' : World), Calls Try.prog 95 #[.int .i64 (M i0 cc), .int .i64 (M x j), .int .i64 (M x cc), .int .i64 (M i0 j), .int .i64 d] w' fun e w'' => e = .returned (.int .i64 (N x j)) ∧ Ext w' w'' := fun x hx hne j w' => by
                  rw [hN, hi0]
                  exact step_any _ _ _ _ _ _ w' (bM.2 _ (hsol.lt k hkm) _) (bM.2 _ hx _) (bM.2 _ hx _) (bM.2 _ (hsol.lt k hkm) _) hsol.bar.ne bM.1 (hsol.newM_mul hpl hkm hp hx (by rw [← hi0]; exact hne) j) (bN.2 _ hx _)
                have hN0 : ∀ j, N i0 j = M i0 j := fun j => by rw [hN, hi0]; unfold newM; rw [if_pos rfl]
                have hlt' : ∀ i, i < m → σ' i < m := fun i hi => by
                  obtain ⟨i', hi', e⟩ := swapF_lt (σ := σ) hpm hkm hi
                  rw [hσ', e]; exact hsol.lt i' hi'
                have hpn' : σ' pn = i0 := by rw [hσ', hi0]; unfold swapF; rw [if_pos rfl]
                have hne' : ∀ i, i < m → i ≠ pn → σ' i ≠ i0 := fun i hi hne e => by
                  rw [hi0, hσ'] at e
                  exact hne (swapF_inj (σ := σ) hpm hkm hsol.inj i pn hi hpm (by rw [e]; unfold swapF; rw [if_pos rfl]))
                have hnew' : SolSt A0 n m (cols.take t ++ [cc]) σ' (pv ++ [(i0, cc)]) N (M i0 cc) := by
                  rw [hσ', hN, hi0, Hpn.out]; exact hnew
                rw [← hi0]
                have Hst := Lib.hid hst
                have HN0 := Lib.hid hN0
                have Hnew := Lib.hid hnew'
                have Hlt' := Lib.hid hlt'
                have Hne' := Lib.hid hne'
                have Hpn' := Lib.hid hpn'
                have HP := Lib.hid hp
                clear hst hN0 hnew hnew' hlt' hne' hpn' bM bN hsol hpl hl8 hN hσ' hi0 hp
                refine loopR (b := w) (n := n) (m := m) (pn := pn) (cc := cc) (g4 := g4) (mb := mb) (gv := gv) (cv := cv) (i0 := i0) (g := g') (h := h') (σ := σ') (N := N) (M := M) (p := M i0 cc) (d := d) (ord := .slice (some od) ol oc) (cnt := pn) (D := D)
                  hn hm hpm hcn Hst.out HN0.out Hlt'.out Hpn'.out Hne'.out hsepS (hmfS.congr (fun i _ => by rw [if_neg (by omega)]) (fun i _ => by rw [if_neg (by omega)])) hfrS ?_
                intro x13 x14 x15 x16 x17 x88 x89 x90 x91 x92 x93 x94 x95 x96 x97 x98 x99 x100 x101 x102 x103 x104 x105 x106 x107 x108 x109 x110 x111 x112 x113 x114 x115 x116 x117 x118 x119 x120 x121 x122 x123 x124 x125 x126 x127 x128 x129 x130 x131 x132 x133 x134 x135 x136 x137 x138 x139 x140 x141 x142 x143 x144 x145 x146 x147 x148 x149 x150 x151 x152 x153 x154 x155 x156 x157 x158 x159 x160 wz hmfz hfrz
                have hmfz := hmfz.congr (L' := fun i => lineOf N n (σ' i)) (B' := fun i => byOf N n m (σ' i)) (fun i hi => by rw [if_pos hi]) (fun i hi => by rw [if_pos hi])
                have z51 : wz.cell? ⟨g5, 1, none⟩ = some (.map (some mb)) := hfrz.b5.cell 1 (by simp)
                have k1 := Maps.keyOf_int_mk (P := Try.prog) Try.underlying3 (wf_nat cc (by omega))
                have k2 := plainElem_int (H := Unit) (P := Try.prog) Try.underlying3 (wf_nat pn (by omega))
                go_wp2_with (refine wpList_mapUpdate_own _ rfl _ _ _ 99 rfl 3 3 (Maps.int_keyed Try.underlying3) Try.underlying99 (plainElem Try.prog 3) mb pn D rfl hfrz.mp (by unfold maxLen; omega) _ _ _ rfl rfl k1 _ _ k2 ?_; intro wy hown hgy; have hby := hfrz.b5.grown hgy (fun e => by have := Option.some.inj e; have := hfrz.e5; omega); have y3 := hby.cell 3 (by simp); have yf := hby.free 3)
                have hfr' := hfrz.pivot hown hgy (M i0 cc)
                have hmf' := (hmfz.grown hgy (by have := H45.out; omega) (fun e => by have := hsepS.v mb e; have := hfrz.e5; omega) (fun i hi => by have := hsepS.g i hi; have := hfrz.e5; omega) (fun i hi => by have := hsepS.h i hi; have := hfrz.e5; omega)).other (p := ⟨g5, 3, none⟩) (by omega) (by omega) (by have := H45.out; simp only; omega) (fun e => absurd (hsepS.v g5 e) (Nat.lt_irrefl _)) (fun i hi => by have := hsepS.g i hi; simp only; omega) (fun i hi => by have := hsepS.h i hi; simp only; omega) (.int .i64 (M i0 cc))
                go_roundw
                case rel =>
                  have hnw := Hnew.out
                  have hcp : colsP (pv ++ [(i0, cc)]) = colsP pv ++ [cc] := by simp [colsP]
                  have hcn2 := hnw.cnd
                  rw [hcp, List.nodup_append] at hcn2
                  have hm2 := Hmap.out.put (c := cc) (fun hm => hcn2.2.2 cc hm cc (by simp) rfl)
                  have hl2 : (colsP pv).length = pn := by rw [Hpn.out]; simp [colsP]
                  rw [hl2] at hm2
                  refine ⟨t + 1, by omega, by go_num, _, g', h', σ', pv ++ [(i0, cc)], N, M i0 cc, _, by rw [Htake.out]; exact hnw, hmf', ?_, hsepS, by rw [hcp]; exact hm2⟩
                  have hl3 : (pv ++ [(i0, cc)]).length = pn + 1 := by rw [Hpn.out]; simp
                  rw [hl3]; exact hfr'
                case measure => simp [intOf]; omega
            · go_wp2
              go_roundw
              case rel =>
                refine ⟨t + 1, by omega, by go_num, _, g, h, σ, pv, M, d, D, by rw [Htake.out]; exact Hsol.out.skip (fun j h1 h2 => Hz.out j h1 (by omega)), hmf, hfr, hsep, Hmap.out⟩
              case measure => simp [intOf]; omega
        · obtain rfl : t = ol := by omega
          have c50 : wo.cell? ⟨g5, 0, none⟩ = some (.slice Av m cv) := hfr.b5.cell 0 (by simp)
          have c51 : wo.cell? ⟨g5, 1, none⟩ = some (.map (some mb)) := hfr.b5.cell 1 (by simp)
          have c52 : wo.cell? ⟨g5, 2, none⟩ = some (.slice Or t oc) := hfr.b5.cell 2 (by simp)
          have c53 : wo.cell? ⟨g5, 3, none⟩ = some (.int .i64 d) := hfr.b5.cell 3 (by simp)
          have c40 : wo.cell? ⟨g4, 0, none⟩ = some (.slice none 0 0) := hfr.b4.cell 0 (by simp)
          have c41 : wo.cell? ⟨g4, 1, none⟩ = some (.map none) := hfr.b4.cell 1 (by simp)
          have c42 : wo.cell? ⟨g4, 2, none⟩ = some (.slice none 0 0) := hfr.b4.cell 2 (by simp)
          have c43 : wo.cell? ⟨g4, 3, none⟩ = some (.int .i64 0) := hfr.b4.cell 3 (by simp)
          have f4 := fun j => hfr.b4.free j
          have e4 := hfr.e4
          have e5 := hfr.e5
          have oth : ∀ (W : World), MF w W (.slice Av m cv) n m m g h (fun k => lineOf M n (σ k)) (fun k => byOf M n m (σ k)) → MapI W mb pv.length D → ∀ (j : Nat) (u : Value), MF w (W.setCell ⟨g4, j, none⟩ u) (.slice Av m cv) n m m g h (fun k => lineOf M n (σ k)) (fun k => byOf M n m (σ k)) ∧ MapI (W.setCell ⟨g4, j, none⟩ u) mb pv.length D := fun W hW hM j u =>
            ⟨hW.other (p := ⟨g4, j, none⟩) (by omega) (by omega) (by have := H45.out; simp only; omega) (fun e => by have := hsep.v g4 e; omega) (fun i hi => by have := hsep.g i hi; simp only; omega) (fun i hi => by have := hsep.h i hi; simp only; omega) u, hM.setCell (a := ⟨g4, j, none⟩) (by simp only; omega) u⟩
          obtain ⟨o1, q1⟩ := oth wo hmf hfr.mp 0 (.slice Av m cv)
          obtain ⟨o2, q2⟩ := oth _ o1 q1 1 (.map (some mb))
          obtain ⟨o3, q3⟩ := oth _ o2 q2 2 (.slice Or t oc)
          obtain ⟨o4, q4⟩ := oth _ o3 q3 3 (.int .i64 d)
          have z0 := World.cell?_setCell_same wo ⟨g4, 0, none⟩ (.slice Av m cv) c40
          have z1 := World.cell?_setCell_same (wo.setCell ⟨g4, 0, none⟩ (.slice Av m cv)) ⟨g4, 1, none⟩ (.map (some mb)) (u := .map none) (by rw [World.cell?_setCell_other _ _ _ _ (by simp)]; exact c41)
          have z2 := World.cell?_setCell_same ((wo.setCell ⟨g4, 0, none⟩ (.slice Av m cv)).setCell ⟨g4, 1, none⟩ (.map (some mb))) ⟨g4, 2, none⟩ (.slice Or t oc) (u := .slice none 0 0) (by rw [World.cell?_setCell_other _ _ _ _ (by simp), World.cell?_setCell_other _ _ _ _ (by simp)]; exact c42)
          have z3 := World.cell?_setCell_same (((wo.setCell ⟨g4, 0, none⟩ (.slice Av m cv)).setCell ⟨g4, 1, none⟩ (.map (some mb))).setCell ⟨g4, 2, none⟩ (.slice Or t oc)) ⟨g4, 3, none⟩ (.int .i64 d) (u := .int .i64 0) (by rw [World.cell?_setCell_other _ _ _ _ (by simp), World.cell?_setCell_other _ _ _ _ (by simp), World.cell?_setCell_other _ _ _ _ (by simp)]; exact c43)
          have hsolf : SolSt A0 n m cols σ pv M d := by
            have := hsol
            rwa [Hol.out, List.take_length] at this
          have hmbw : w.heap.size ≤ mb := by have := H45.out; omega
          have HF := Lib.hid hsolf
          have Hmf := Lib.hid o4
          have Hmp := Lib.hid q4
          have Hmap := Lib.hid hmap
          clear oth o1 o2 o3 o4 q1 q2 q3 q4 hsol hmf hmap hsolf
          go_wp2
          rw [Exit.noGoto_ret]
          refine bodyPost_ret (by simp [results, Try.results65, go_sem, z0, z1, z2, z3]; try rfl) rfl ?_
          exact ⟨_, mb, g, h, σ, pv, M, d, D, rfl, HF.out, Hmf.out, Hmp.out, Hmap.out, hmbw⟩
end Go.Proofs.Ytbclbcldplmppaa

/- The order of shafts, by the code. -/
namespace Go.Proofs.Ytbclbcldplmppaa
open Go.RowKit

set_option maxRecDepth 100000 in
set_option maxHeartbeats 1000000 in
theorem compact_nil (w : World) : Calls Try.prog 96 #[.slice none 0 0] w fun e w' => e = .returned (.slice none 0 0) ∧ w = w' := by
  go_enter Try.func96, Try.ntmps96
  go_wp2
  go_ret
  exact ⟨rfl, rfl⟩

set_option maxRecDepth 100000 in
set_option maxHeartbeats 1000000 in
theorem compact_one (A : Option Addr) (c : Nat) (w : World) : Calls Try.prog 96 #[.slice A 1 c] w fun e w' => e = .returned (.slice A 1 c) ∧ w = w' := by
  go_enter Try.func96, Try.ntmps96
  go_wp2
  go_ret
  exact ⟨rfl, rfl⟩

set_option maxRecDepth 100000 in
set_option maxHeartbeats 4000000 in
theorem compact_two (gl : Nat) (x y : Int) (w : World) (h0 : w.cell? ⟨gl, 0, none⟩ = some (vint x)) (h1 : w.cell? ⟨gl, 1, none⟩ = some (vint y)) (hf : w.frozen? ⟨gl, 1, none⟩ = false) :
    Calls Try.prog 96 #[.slice (some ⟨gl, 0, none⟩) 2 2] w fun e w' =>
      (x ≠ y ∧ e = .returned (.slice (some ⟨gl, 0, none⟩) 2 2) ∧ Ext w w') ∨ (x = y ∧ e = .returned (.slice (some ⟨gl, 0, none⟩) 1 2) ∧ ∃ w1, Ext w w1 ∧ w' = w1.setCell ⟨gl, 1, none⟩ (vint 0)) := by
  go_enter Try.func96, Try.ntmps96
  go_wp2
  go_loopw [3] (fun i wr => Ext w wr ∧ (i = .int .i64 1 ∨ (i = .int .i64 2 ∧ x ≠ y))) (fun i _ => 3 - (intOf i).toNat)
  case atStart => exact ⟨Ext.refl _, .inl rfl⟩
  case round =>
    obtain ⟨hex, hrel⟩ := hrel
    have h0 := hex.cell h0
    have h1 := hex.cell h1
    have hf : wr.frozen? ⟨gl, 1, none⟩ = false := (hex.frozen (World.block_lt_of_cell? _ _ (show w.cell? ⟨gl, 1, none⟩ = some (vint y) by assumption))).trans hf
    rcases hrel with rfl | ⟨rfl, hne⟩
    · by_cases e : x = y
      · have hb : (y == x) = true := by simp [e]
        have E := Lib.hid e
        clear e
        have hcl : ∀ (nq : Nat) ty, (Builtin.clear_ #[22] ty #[.slice (some ⟨gl, 1, none⟩) 1 1]).run Try.prog (wr.drewN nq) = .ok (.tuple #[]) ((wr.drewN nq).setCell ⟨gl, 1, none⟩ (.int .i64 0)) := fun nq ty => by
          have := Go.Lib.run_clear_slice (P := Try.prog) (wr.drewN nq) 22 3 ty (.int .i64 0) Try.underlying22 Try.zeroValue3 rfl rfl gl 1 1 1 (by omega) (fun j hj => by
            obtain rfl : j = 0 := by omega
            have : (wr.drewN nq).cell? ⟨gl, 1, none⟩ = some (vint y) := h1
            simp [this]) (fun j hj => by
            obtain rfl : j = 0 := by omega
            exact hf)
          simpa [World.setCells] using this
        go_wp2
        go_quiet (fail)
        go_wp2
        go_loop [5, 3] (fun i k => i = .int .i64 1 ∧ k = .int .i64 1) (fun _ _ => 0)
        case atStart => exact ⟨rfl, rfl⟩
        case round =>
          obtain ⟨rfl, rfl⟩ := hrel
          go_wp2
          go_ret
          exact .inr ⟨E.out, rfl, _, hex.trans (by simp), rfl⟩
      · have hb : (y == x) = false := by simp; exact fun e' => e e'.symm
        have E := Lib.hid e
        clear e
        go_wp2
        go_quiet (fail)
        go_wp2
        go_roundw
        case rel => exact ⟨hex.trans (by simp), .inr ⟨rfl, E.out⟩⟩
        case measure => simp [intOf]
    · go_wp2
      go_ret
      exact .inl ⟨hne, rfl, hex⟩
end Go.Proofs.Ytbclbcldplmppaa
