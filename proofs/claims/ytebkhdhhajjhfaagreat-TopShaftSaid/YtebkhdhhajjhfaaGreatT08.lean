/- (a * b - c * d) / by, a whole number: the walk. -/
import Derived.Test.YtebkhdhhajjhfaaGreatT07
import Derived.Test.YtebkhdhhajjhfaaGreatT02
import Derived.Test.YtebkhdhhajjhfaaGreatProg
namespace Go.Proofs.YtebkhdhhajjhfaaGreat.Gr
open Go.RowKit

theorem lt_of_quo {H L Y Q : Nat} (h : H * 18446744073709551616 + L < Y * (Q + 1)) (hQ : Q < 4611686018427387904) (_hY : 0 < Y) : H < Y := by
  rcases Nat.lt_or_ge H Y with h1 | h1
  · exact h1
  · have h2 := Nat.mul_le_mul_left Y (show Q + 1 ≤ 18446744073709551616 by omega)
    have h3 := Nat.mul_le_mul_right 18446744073709551616 h1
    omega

set_option maxRecDepth 100000 in
set_option maxHeartbeats 4000000 in
theorem step_any (a b c d y q : Int) (w : World) (ha : a.natAbs < 4611686018427387904) (hb : b.natAbs < 4611686018427387904) (hc : c.natAbs < 4611686018427387904) (hd : d.natAbs < 4611686018427387904)
    (hy : y ≠ 0) (hy2 : y.natAbs < 4611686018427387904) (hq : y * q = a * b - c * d) (hq2 : q.natAbs < 4611686018427387904) :
    Calls Tryz.prog 84 #[.int .i64 a, .int .i64 b, .int .i64 c, .int .i64 d, .int .i64 y] w fun e w' => e = .returned (.int .i64 q) ∧ Ext w w' := by
  have ct1 := fun w' => times_any a b w' ha hb
  have ct2 := fun w' => times_any c d w' hc hd
  have v1 := signed_mul a b
  have v2 := signed_mul c d
  have p1 : a.natAbs * b.natAbs < 21267647932558653966460912964485513216 := Nat.mul_lt_mul'' ha hb
  have p2 : c.natAbs * d.natAbs < 21267647932558653966460912964485513216 := Nat.mul_lt_mul'' hc hd
  have hsq := fun (U : Nat) (neg : Bool) (hV : a * b - c * d = if neg = true then -(U : Int) else (U : Int)) => signed_quo (U := U) (neg := neg) hy hq hV
  generalize (decide (a < 0) != decide (b < 0)) = be at *
  generalize (decide (c < 0) != decide (d < 0)) = un at *
  generalize a.natAbs * b.natAbs = P1 at *
  generalize c.natAbs * d.natAbs = P2 at *
  generalize a * b = A at *
  generalize c * d = C at *
  obtain ⟨h, hh⟩ : ∃ h, h = P1 / 18446744073709551616 := ⟨_, rfl⟩
  obtain ⟨l, hl⟩ : ∃ l, l = P1 % 18446744073709551616 := ⟨_, rfl⟩
  obtain ⟨i, hi⟩ : ∃ i, i = P2 / 18446744073709551616 := ⟨_, rfl⟩
  obtain ⟨k, hk⟩ : ∃ k, k = P2 % 18446744073709551616 := ⟨_, rfl⟩
  rw [← hh, ← hl] at ct1
  rw [← hi, ← hk] at ct2
  have hP1 : P1 = h * 18446744073709551616 + l := by omega
  have hP2 : P2 = i * 18446744073709551616 + k := by omega
  have hl1 : l < 18446744073709551616 := by omega
  have hk1 : k < 18446744073709551616 := by omega
  have hh1 : h < 4611686018427387904 := by omega
  have hi1 : i < 4611686018427387904 := by omega
  clear hh hl hi hk p1 p2
  subst hP1 hP2
  have ey : IntKind.i64.wrap (-y) = -y := by rw [IntKind.wrap_i64]; omega
  have my := maxAbs y
  have wy : IntKind.u64.wrap (y.natAbs : Int) = (y.natAbs : Int) := wrapN_ _ (by omega)
  have hY : 0 < y.natAbs := by omega
  have wq : IntKind.i64.wrap (q.natAbs : Int) = (q.natAbs : Int) := by rw [IntKind.wrap_i64]; omega
  have wq2 : IntKind.i64.wrap (-(q.natAbs : Int)) = -(q.natAbs : Int) := by rw [IntKind.wrap_i64]; omega
  have hylt : decide (y < 0) = true ∨ decide (y < 0) = false := by cases decide (y < 0) <;> simp
  generalize y.natAbs = Y at *
  generalize q.natAbs = Q at *
  cases be
  · cases un
    · rcases (by omega : h < i ∨ (h = i ∧ l < k) ∨ (h = i ∧ k ≤ l) ∨ i < h) with hc | ⟨rfl, hc⟩ | ⟨rfl, hc⟩ | hc
      · obtain ⟨L, bo, H, bo2, s1, s2, s3, s4⟩ := sub_pair hk1 hl1 (by omega) (show h * 18446744073709551616 + l ≤ i * 18446744073709551616 + k by omega)
        obtain ⟨t1, t2, t3⟩ := hsq (H * 18446744073709551616 + L) true (by rw [v1, v2, s3]; first | (simp; done) | (simp; omega))
        have cd := fun w' => div64_any H L Y w' (lt_of_quo t2 hq2 hY) (by omega) s4
        rw [t1] at cd
        have T3 := Lib.hid t3
        have S3 := Lib.hid s3
        clear hsq v1 v2 s3 s4 t1 t2 t3 hq
        have d1 : decide ((h : Int) < (i : Int)) = true := by simp; omega
        rcases hylt with hys | hys
        all_goals
          rw [hys] at T3
          go_enter Tryz.func84, Tryz.ntmps84
          go_wp2_with (first
            | (go_at_call 122; first | (with_reducible refine (ct1 _).mono ?_; rintro e w' ⟨rfl, rfl⟩) | (with_reducible refine (ct2 _).mono ?_; rintro e w' ⟨rfl, rfl⟩))
            | (go_at_call 125; refine (cd _).mono ?_; rintro e w3 ⟨w2, ⟨r, rfl, rfl⟩, hx⟩))
          go_ret
          exact ⟨ret_i (by have := T3.out; simpa using this), hx⟩
      · obtain ⟨L, bo, H, bo2, s1, s2, s3, s4⟩ := sub_pair hk1 hl1 (by omega) (show h * 18446744073709551616 + l ≤ h * 18446744073709551616 + k by omega)
        obtain ⟨t1, t2, t3⟩ := hsq (H * 18446744073709551616 + L) true (by rw [v1, v2, s3]; first | (simp; done) | (simp; omega))
        have cd := fun w' => div64_any H L Y w' (lt_of_quo t2 hq2 hY) (by omega) s4
        rw [t1] at cd
        have T3 := Lib.hid t3
        have S3 := Lib.hid s3
        clear hsq v1 v2 s3 s4 t1 t2 t3 hq
        have d3 : decide ((l : Int) < (k : Int)) = true := by simp; omega
        rcases hylt with hys | hys
        all_goals
          rw [hys] at T3
          go_enter Tryz.func84, Tryz.ntmps84
          go_wp2_with (first
            | (go_at_call 122; first | (with_reducible refine (ct1 _).mono ?_; rintro e w' ⟨rfl, rfl⟩) | (with_reducible refine (ct2 _).mono ?_; rintro e w' ⟨rfl, rfl⟩))
            | (go_at_call 125; refine (cd _).mono ?_; rintro e w3 ⟨w2, ⟨r, rfl, rfl⟩, hx⟩))
          go_ret
          exact ⟨ret_i (by have := T3.out; simpa using this), hx⟩
      · obtain ⟨L, bo, H, bo2, s1, s2, s3, s4⟩ := sub_pair hl1 hk1 (by omega) (show h * 18446744073709551616 + k ≤ h * 18446744073709551616 + l by omega)
        obtain ⟨t1, t2, t3⟩ := hsq (H * 18446744073709551616 + L) false (by rw [v1, v2, s3]; first | (simp; done) | (simp; omega))
        have cd := fun w' => div64_any H L Y w' (lt_of_quo t2 hq2 hY) (by omega) s4
        rw [t1] at cd
        have T3 := Lib.hid t3
        have S3 := Lib.hid s3
        clear hsq v1 v2 s3 s4 t1 t2 t3 hq
        have d3 : decide ((l : Int) < (k : Int)) = false := by simp; omega
        rcases hylt with hys | hys
        all_goals
          rw [hys] at T3
          go_enter Tryz.func84, Tryz.ntmps84
          go_wp2_with (first
            | (go_at_call 122; first | (with_reducible refine (ct1 _).mono ?_; rintro e w' ⟨rfl, rfl⟩) | (with_reducible refine (ct2 _).mono ?_; rintro e w' ⟨rfl, rfl⟩))
            | (go_at_call 125; refine (cd _).mono ?_; rintro e w3 ⟨w2, ⟨r, rfl, rfl⟩, hx⟩))
          go_ret
          exact ⟨ret_i (by have := T3.out; simpa using this), hx⟩
      · obtain ⟨L, bo, H, bo2, s1, s2, s3, s4⟩ := sub_pair hl1 hk1 (by omega) (show i * 18446744073709551616 + k ≤ h * 18446744073709551616 + l by omega)
        obtain ⟨t1, t2, t3⟩ := hsq (H * 18446744073709551616 + L) false (by rw [v1, v2, s3]; first | (simp; done) | (simp; omega))
        have cd := fun w' => div64_any H L Y w' (lt_of_quo t2 hq2 hY) (by omega) s4
        rw [t1] at cd
        have T3 := Lib.hid t3
        have S3 := Lib.hid s3
        clear hsq v1 v2 s3 s4 t1 t2 t3 hq
        have d1 : decide ((h : Int) < (i : Int)) = false := by simp; omega
        have d2 : ((h : Int) == (i : Int)) = false := by simp; omega
        rcases hylt with hys | hys
        all_goals
          rw [hys] at T3
          go_enter Tryz.func84, Tryz.ntmps84
          go_wp2_with (first
            | (go_at_call 122; first | (with_reducible refine (ct1 _).mono ?_; rintro e w' ⟨rfl, rfl⟩) | (with_reducible refine (ct2 _).mono ?_; rintro e w' ⟨rfl, rfl⟩))
            | (go_at_call 125; refine (cd _).mono ?_; rintro e w3 ⟨w2, ⟨r, rfl, rfl⟩, hx⟩))
          go_ret
          exact ⟨ret_i (by have := T3.out; simpa using this), hx⟩

    · obtain ⟨L, bo, H, bo2, s1, s2, s3, s4⟩ := add_pair hl1 hk1 hh1 hi1
      obtain ⟨t1, t2, t3⟩ := hsq (H * 18446744073709551616 + L) false (by rw [v1, v2, s3]; first | (simp; done) | (simp; omega))
      have cd := fun w' => div64_any H L Y w' (lt_of_quo t2 hq2 hY) (by omega) s4
      rw [t1] at cd
      have T3 := Lib.hid t3
      have S3 := Lib.hid s3
      clear hsq v1 v2 s3 s4 t1 t2 t3 hq
      have d0 : True := trivial
      rcases hylt with hys | hys
      all_goals
        rw [hys] at T3
        go_enter Tryz.func84, Tryz.ntmps84
        go_wp2_with (first
          | (go_at_call 122; first | (with_reducible refine (ct1 _).mono ?_; rintro e w' ⟨rfl, rfl⟩) | (with_reducible refine (ct2 _).mono ?_; rintro e w' ⟨rfl, rfl⟩))
          | (go_at_call 125; refine (cd _).mono ?_; rintro e w3 ⟨w2, ⟨r, rfl, rfl⟩, hx⟩))
        go_ret
        exact ⟨ret_i (by have := T3.out; simpa using this), hx⟩
  · cases un
    · obtain ⟨L, bo, H, bo2, s1, s2, s3, s4⟩ := add_pair hl1 hk1 hh1 hi1
      obtain ⟨t1, t2, t3⟩ := hsq (H * 18446744073709551616 + L) true (by rw [v1, v2, s3]; first | (simp; done) | (simp; omega))
      have cd := fun w' => div64_any H L Y w' (lt_of_quo t2 hq2 hY) (by omega) s4
      rw [t1] at cd
      have T3 := Lib.hid t3
      have S3 := Lib.hid s3
      clear hsq v1 v2 s3 s4 t1 t2 t3 hq
      have d0 : True := trivial
      rcases hylt with hys | hys
      all_goals
        rw [hys] at T3
        go_enter Tryz.func84, Tryz.ntmps84
        go_wp2_with (first
          | (go_at_call 122; first | (with_reducible refine (ct1 _).mono ?_; rintro e w' ⟨rfl, rfl⟩) | (with_reducible refine (ct2 _).mono ?_; rintro e w' ⟨rfl, rfl⟩))
          | (go_at_call 125; refine (cd _).mono ?_; rintro e w3 ⟨w2, ⟨r, rfl, rfl⟩, hx⟩))
        go_ret
        exact ⟨ret_i (by have := T3.out; simpa using this), hx⟩
    · rcases (by omega : h < i ∨ (h = i ∧ l < k) ∨ (h = i ∧ k ≤ l) ∨ i < h) with hc | ⟨rfl, hc⟩ | ⟨rfl, hc⟩ | hc
      · obtain ⟨L, bo, H, bo2, s1, s2, s3, s4⟩ := sub_pair hk1 hl1 (by omega) (show h * 18446744073709551616 + l ≤ i * 18446744073709551616 + k by omega)
        obtain ⟨t1, t2, t3⟩ := hsq (H * 18446744073709551616 + L) false (by rw [v1, v2, s3]; first | (simp; done) | (simp; omega))
        have cd := fun w' => div64_any H L Y w' (lt_of_quo t2 hq2 hY) (by omega) s4
        rw [t1] at cd
        have T3 := Lib.hid t3
        have S3 := Lib.hid s3
        clear hsq v1 v2 s3 s4 t1 t2 t3 hq
        have d1 : decide ((h : Int) < (i : Int)) = true := by simp; omega
        rcases hylt with hys | hys
        all_goals
          rw [hys] at T3
          go_enter Tryz.func84, Tryz.ntmps84
          go_wp2_with (first
            | (go_at_call 122; first | (with_reducible refine (ct1 _).mono ?_; rintro e w' ⟨rfl, rfl⟩) | (with_reducible refine (ct2 _).mono ?_; rintro e w' ⟨rfl, rfl⟩))
            | (go_at_call 125; refine (cd _).mono ?_; rintro e w3 ⟨w2, ⟨r, rfl, rfl⟩, hx⟩))
          go_ret
          exact ⟨ret_i (by have := T3.out; simpa using this), hx⟩
      · obtain ⟨L, bo, H, bo2, s1, s2, s3, s4⟩ := sub_pair hk1 hl1 (by omega) (show h * 18446744073709551616 + l ≤ h * 18446744073709551616 + k by omega)
        obtain ⟨t1, t2, t3⟩ := hsq (H * 18446744073709551616 + L) false (by rw [v1, v2, s3]; first | (simp; done) | (simp; omega))
        have cd := fun w' => div64_any H L Y w' (lt_of_quo t2 hq2 hY) (by omega) s4
        rw [t1] at cd
        have T3 := Lib.hid t3
        have S3 := Lib.hid s3
        clear hsq v1 v2 s3 s4 t1 t2 t3 hq
        have d3 : decide ((l : Int) < (k : Int)) = true := by simp; omega
        rcases hylt with hys | hys
        all_goals
          rw [hys] at T3
          go_enter Tryz.func84, Tryz.ntmps84
          go_wp2_with (first
            | (go_at_call 122; first | (with_reducible refine (ct1 _).mono ?_; rintro e w' ⟨rfl, rfl⟩) | (with_reducible refine (ct2 _).mono ?_; rintro e w' ⟨rfl, rfl⟩))
            | (go_at_call 125; refine (cd _).mono ?_; rintro e w3 ⟨w2, ⟨r, rfl, rfl⟩, hx⟩))
          go_ret
          exact ⟨ret_i (by have := T3.out; simpa using this), hx⟩
      · obtain ⟨L, bo, H, bo2, s1, s2, s3, s4⟩ := sub_pair hl1 hk1 (by omega) (show h * 18446744073709551616 + k ≤ h * 18446744073709551616 + l by omega)
        obtain ⟨t1, t2, t3⟩ := hsq (H * 18446744073709551616 + L) true (by rw [v1, v2, s3]; first | (simp; done) | (simp; omega))
        have cd := fun w' => div64_any H L Y w' (lt_of_quo t2 hq2 hY) (by omega) s4
        rw [t1] at cd
        have T3 := Lib.hid t3
        have S3 := Lib.hid s3
        clear hsq v1 v2 s3 s4 t1 t2 t3 hq
        have d3 : decide ((l : Int) < (k : Int)) = false := by simp; omega
        rcases hylt with hys | hys
        all_goals
          rw [hys] at T3
          go_enter Tryz.func84, Tryz.ntmps84
          go_wp2_with (first
            | (go_at_call 122; first | (with_reducible refine (ct1 _).mono ?_; rintro e w' ⟨rfl, rfl⟩) | (with_reducible refine (ct2 _).mono ?_; rintro e w' ⟨rfl, rfl⟩))
            | (go_at_call 125; refine (cd _).mono ?_; rintro e w3 ⟨w2, ⟨r, rfl, rfl⟩, hx⟩))
          go_ret
          exact ⟨ret_i (by have := T3.out; simpa using this), hx⟩
      · obtain ⟨L, bo, H, bo2, s1, s2, s3, s4⟩ := sub_pair hl1 hk1 (by omega) (show i * 18446744073709551616 + k ≤ h * 18446744073709551616 + l by omega)
        obtain ⟨t1, t2, t3⟩ := hsq (H * 18446744073709551616 + L) true (by rw [v1, v2, s3]; first | (simp; done) | (simp; omega))
        have cd := fun w' => div64_any H L Y w' (lt_of_quo t2 hq2 hY) (by omega) s4
        rw [t1] at cd
        have T3 := Lib.hid t3
        have S3 := Lib.hid s3
        clear hsq v1 v2 s3 s4 t1 t2 t3 hq
        have d1 : decide ((h : Int) < (i : Int)) = false := by simp; omega
        have d2 : ((h : Int) == (i : Int)) = false := by simp; omega
        rcases hylt with hys | hys
        all_goals
          rw [hys] at T3
          go_enter Tryz.func84, Tryz.ntmps84
          go_wp2_with (first
            | (go_at_call 122; first | (with_reducible refine (ct1 _).mono ?_; rintro e w' ⟨rfl, rfl⟩) | (with_reducible refine (ct2 _).mono ?_; rintro e w' ⟨rfl, rfl⟩))
            | (go_at_call 125; refine (cd _).mono ?_; rintro e w3 ⟨w2, ⟨r, rfl, rfl⟩, hx⟩))
          go_ret
          exact ⟨ret_i (by have := T3.out; simpa using this), hx⟩

end Go.Proofs.YtebkhdhhajjhfaaGreat.Gr

/- solve: its loops' bodies. -/
namespace Go.Proofs.YtebkhdhhajjhfaaGreat.Gr
def blockOf (n : Nat) : Code → Option Code
  | .block k c => if k = n then some c else blockOf n c
  | .seq a b => match blockOf n a with
    | some c => some c
    | none => blockOf n b
  | .cond _ a b => match blockOf n a with
    | some c => some c
    | none => blockOf n b
  | .loop c => blockOf n c
  | .scope c => blockOf n c
  | _ => none
def loopBody : Code → Code
  | .loop c => c
  | _ => .skip
noncomputable def loop65_8 : Code := ((Tryz.f47.body.bind (blockOf 8)).map loopBody).getD .skip
noncomputable def loop65_10 : Code := ((Tryz.f47.body.bind (blockOf 10)).map loopBody).getD .skip
noncomputable def loop65_6 : Code := ((Tryz.f47.body.bind (blockOf 6)).map loopBody).getD .skip
end Go.Proofs.YtebkhdhhajjhfaaGreat.Gr
