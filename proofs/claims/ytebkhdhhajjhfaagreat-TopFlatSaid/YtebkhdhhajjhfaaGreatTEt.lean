/- The law TopFlat's walk. -/
import Derived.Test.YtebkhdhhajjhfaaGreatT34
namespace Go.Proofs.YtebkhdhhajjhfaaGreat.Lt
open Go.RowKit
theorem u8_mod {a : Int} (n : Int) (ha : 0 ≤ a) : a.tmod n = a % n := Int.tmod_eq_emod_of_nonneg ha
theorem tmod13 (a : Int) : -12 ≤ a.tmod 13 ∧ a.tmod 13 ≤ 12 := by
  have h1 := Int.tmod_lt_of_pos a (show (0 : Int) < 13 by omega)
  have h2 := Int.neg_tmod a 13
  have h3 := Int.tmod_lt_of_pos (-a) (show (0 : Int) < 13 by omega)
  omega
theorem w_u8 {a : Int} (h : 0 ≤ a ∧ a ≤ 255) : IntKind.u8.wrap a = a := by unfold IntKind.wrap; simp [IntKind.bits, IntKind.signed]; omega
theorem w_i8 {a : Int} (h : -128 ≤ a ∧ a ≤ 127) : IntKind.i8.wrap a = a := by unfold IntKind.wrap; simp [IntKind.bits, IntKind.signed]; omega
theorem w_i64 {a : Int} (h : -1000 ≤ a ∧ a ≤ 1000) : IntKind.i64.wrap a = a := by rw [IntKind.wrap_i64]; omega
set_option maxRecDepth 100000 in
set_option maxHeartbeats 2000000 in
theorem topFlat_law (a b c d x y t : Int) (w : World) (ha : 0 ≤ a ∧ a ≤ 255) (hb : 0 ≤ b ∧ b ≤ 255) (hc : 0 ≤ c ∧ c ≤ 255) (hd : 0 ≤ d ∧ d ≤ 255) (ht : 0 ≤ t ∧ t ≤ 255) :
    Calls Tryz.prog 4 #[.int .u8 a, .int .u8 b, .int .u8 c, .int .u8 d, .int .i8 x, .int .i8 y, .int .u8 t] w fun e w' => e = .returned (.bool true) ∧ Ext w w' := by
  obtain ⟨a1, hA⟩ : ∃ a1 : Nat, a.tmod 6 = a1 := ⟨(a.tmod 6).toNat, by rw [u8_mod 6 ha.1]; omega⟩
  obtain ⟨b1, hB⟩ : ∃ b1 : Nat, b.tmod 4 = b1 := ⟨(b.tmod 4).toNat, by rw [u8_mod 4 hb.1]; omega⟩
  obtain ⟨c1, hC⟩ : ∃ c1 : Nat, c.tmod 6 = c1 := ⟨(c.tmod 6).toNat, by rw [u8_mod 6 hc.1]; omega⟩
  obtain ⟨d1, hD⟩ : ∃ d1 : Nat, d.tmod 4 = d1 := ⟨(d.tmod 4).toNat, by rw [u8_mod 4 hd.1]; omega⟩
  obtain ⟨t1, hT⟩ : ∃ t1 : Nat, t.tmod 4 = t1 := ⟨(t.tmod 4).toNat, by rw [u8_mod 4 ht.1]; omega⟩
  obtain ⟨x1, hX⟩ : ∃ x1, x.tmod 13 = x1 := ⟨_, rfl⟩
  obtain ⟨y1, hY⟩ : ∃ y1, y.tmod 13 = y1 := ⟨_, rfl⟩
  have b1' : a1 < 6 := by have := u8_mod 6 ha.1; omega
  have b2' : b1 < 4 := by have := u8_mod 4 hb.1; omega
  have b3' : c1 < 6 := by have := u8_mod 6 hc.1; omega
  have b4' : d1 < 4 := by have := u8_mod 4 hd.1; omega
  have b5' : t1 < 4 := by have := u8_mod 4 ht.1; omega
  have b6' : -12 ≤ x1 ∧ x1 ≤ 12 := by rw [← hX]; exact tmod13 x
  have b7' : -12 ≤ y1 ∧ y1 ≤ 12 := by rw [← hY]; exact tmod13 y
  have hf := fun w' => (show Calls Tryz.prog 14 #[.int .i64 ((a1 : Int) + 1), .int .i64 ((b1 : Int) + 1), .int .i64 ((c1 : Int) + 1), .int .i64 ((d1 : Int) + 1), .int .i64 x1, .int .i64 y1, .int .i64 t1] w' fun e w'' => ∃ r : Bool, e = .returned (.tuple #[.bool r, .bool r, .bool true]) ∧ Ext w' w'' from
    Calls.mono (flat_any (a1 + 1) (b1 + 1) (c1 + 1) (d1 + 1) x1 y1 t1 w' (by omega) (by omega) (by omega) (by omega) (by omega) (by omega) b5') fun e w'' ⟨r, he, _, hx⟩ => ⟨r, he, hx⟩)
  have hal := fun w' => alive_any w'
  have Hf := Lib.hid hf
  have Hal := Lib.hid hal
  have u1 := w_u8 (a := (a1 : Int)) (by omega)
  have u2 := w_u8 (a := (b1 : Int)) (by omega)
  have u3 := w_u8 (a := (c1 : Int)) (by omega)
  have u4 := w_u8 (a := (d1 : Int)) (by omega)
  have u5 := w_u8 (a := (t1 : Int)) (by omega)
  have u6 := w_i8 (a := x1) (by omega)
  have u7 := w_i8 (a := y1) (by omega)
  have v1 := w_i64 (a := (a1 : Int)) (by omega)
  have v2 := w_i64 (a := (b1 : Int)) (by omega)
  have v3 := w_i64 (a := (c1 : Int)) (by omega)
  have v4 := w_i64 (a := (d1 : Int)) (by omega)
  have v5 := w_i64 (a := (t1 : Int)) (by omega)
  have v6 := w_i64 (a := x1) (by omega)
  have v7 := w_i64 (a := y1) (by omega)
  have s1 := w_i64 (a := (a1 : Int) + 1) (by omega)
  have s2 := w_i64 (a := (b1 : Int) + 1) (by omega)
  have s3 := w_i64 (a := (c1 : Int) + 1) (by omega)
  have s4 := w_i64 (a := (d1 : Int) + 1) (by omega)
  clear hf hal ha hb hc hd ht b1' b2' b3' b4' b5' b6' b7'
  go_enter Tryz.func4, Tryz.ntmps4
  go_wp2_with (first
    | (go_at_call 13; refine (Hal.out w).mono ?_; rintro e w1 ⟨rfl, hx1⟩; have H1 := Lib.hid hx1; clear hx1)
    | (go_at_call 14; refine (Hf.out w1).mono ?_; rintro e w2 ⟨r, rfl, hx2⟩; have H2 := Lib.hid (H1.out.trans hx2); clear hx2))
  go_ret
  exact ⟨rfl, H2.out⟩
end Go.Proofs.YtebkhdhhajjhfaaGreat.Lt
