/- Pistons, second text: places, by the code and by the reference. -/
import Derived.Test.YtbclbcldplmppaaGp
namespace Go.Proofs.Ytbclbcldplmppaa
open Go.RowKit

theorem vpB_eq {lift : List Int} {op st : Int} {b : Bool} (h : b = true ↔ vpP lift op st) : b = vpB lift op st := by
  cases b <;> simp [vpB] at h ⊢ <;> exact h

set_option maxHeartbeats 400000 in
theorem valid_piston (A : Option Addr) (c : Nat) (lift : List Int) (op st : Int) (w : World) (hA : Ints w A lift) (hn2 : lift.length ≤ 100000) :
    Calls Try.prog 53 #[.agg #[.slice A lift.length c, .int .i64 op, .int .i64 st]] w fun e w' => e = .returned (.bool (vpB lift op st)) ∧ Ext w w' := by
  cases h1 : withinB (lift.length : Int) 1 24
  · have hb : false = vpB lift op st := vpB_eq ⟨fun h => (by cases h), fun h => by rw [withinB_false] at h1; have := h.1; have := h.2.1; omega⟩
    have Hb := Lib.hid hb
    clear hb
    generalize lift.length = n at *
    go_enter Try.func53, Try.ntmps53
    go_wp2_with (go_at_call 54; refine (within_any _ _ _ _).mono ?_; rintro e w' ⟨rfl, rfl⟩)
    go_ret
    exact ⟨ret_b Hb.out, by simp⟩
  cases h2 : withinB op 0 100
  · have hb : false = vpB lift op st := vpB_eq ⟨fun h => (by cases h), fun h => by rw [withinB_false] at h2; have := h.2.2.2; omega⟩
    have Hb := Lib.hid hb
    clear hb
    generalize lift.length = n at *
    go_enter Try.func53, Try.ntmps53
    go_wp2_with (go_at_call 54; refine (within_any _ _ _ _).mono ?_; rintro e w' ⟨rfl, rfl⟩)
    go_ret
    exact ⟨ret_b Hb.out, by simp⟩
  cases h3 : withinB st 1 20
  · have hb : false = vpB lift op st := vpB_eq ⟨fun h => (by cases h), fun h => by rw [withinB_false] at h3; have := h.2.2.2; omega⟩
    have Hb := Lib.hid hb
    clear hb
    generalize lift.length = n at *
    go_enter Try.func53, Try.ntmps53
    go_wp2_with (go_at_call 54; refine (within_any _ _ _ _).mono ?_; rintro e w' ⟨rfl, rfl⟩)
    go_ret
    exact ⟨ret_b Hb.out, by simp⟩
  have hw1 := withinB_true.1 h1
  have hw2 := withinB_true.1 h2
  have hw3 := withinB_true.1 h3
  obtain ⟨ad, rfl, hc, hc0⟩ := hA.some0 (by omega)
  have hgood : (∀ i, i < lift.length → withinB (getI lift i) 0 100 = true) → true = vpB lift op st := fun h => vpB_eq ⟨fun _ => ⟨by omega, by omega, fun i hi => withinB_true.1 (h i hi), by omega, by omega, hw3⟩, fun _ => rfl⟩
  have hbad : ∀ i, i < lift.length → withinB (getI lift i) 0 100 = false → false = vpB lift op st := fun i hi h => vpB_eq ⟨fun h => (by cases h), fun hh => by rw [withinB_false] at h; exact absurd (hh.2.2.1 i hi) h⟩
  have Good := Lib.hid hgood
  have Bad := Lib.hid hbad
  have hn : 0 < lift.length := by omega
  clear hgood hbad hA hw1 hw2 hw3
  generalize lift.length = n at *
  go_enter Try.func53, Try.ntmps53
  go_wp2_with (go_at_call 54; refine (within_any _ _ _ _).mono ?_; rintro e w' ⟨rfl, rfl⟩)
  go_loop [3] (fun i => ∃ k : Nat, k ≤ n ∧ i = .int .i64 k ∧ ∀ j, j < k → withinB (getI lift j) 0 100 = true) (fun i => n - (intOf i).toNat)
  case atStart => exact ⟨0, by omega, rfl, fun j hj => by omega⟩
  case round =>
    obtain ⟨k, hk2, rfl, hall⟩ := hrel
    have Hall := Lib.hid hall
    clear hall
    by_cases hlt : k < n
    · have hck := hc k hlt
      cases hy : withinB (getI lift k) 0 100
      · go_wp2_with (go_at_call 54; refine (within_any _ _ _ _).mono ?_; rintro e w' ⟨rfl, rfl⟩)
        go_ret
        exact ⟨ret_b (Bad.out k hlt hy), by simp⟩
      · go_wp2_with (go_at_call 54; refine (within_any _ _ _ _).mono ?_; rintro e w' ⟨rfl, rfl⟩)
        go_round
        case rel => exact ⟨k + 1, by omega, by go_num, fun j hj => by
          by_cases hjk : j = k
          · rw [hjk]; exact hy
          · exact Hall.out j (by omega)⟩
        case measure => simp [intOf]; omega
    · go_wp2
      go_ret
      exact ⟨ret_b (Good.out fun i hi => Hall.out i (by omega)), by simp⟩

theorem check_piston_ref (A : Option Addr) (c : Nat) (lift : List Int) (op st : Int) (w : World) (hA : Ints w A lift) (hn2 : lift.length ≤ 100000) :
    Calls Try.prog 18 #[.agg #[.slice A lift.length c, .int .i64 op, .int .i64 st]] w fun e w' => e = .returned (.int .i64 (cpS lift op st)) ∧ Ext w w' := by
  have c1 := fun (w' : World) (he : Ext w w') => valid_piston A c lift op st w' (hA.ext he) hn2
  have C1 := Lib.hid c1
  clear c1
  cases hv : vpB lift op st
  all_goals
    have hb : cpS lift op st = cpS lift op st := rfl
    conv at hb => lhs; unfold cpS; rw [hv]
    simp at hb
    have Hb := Lib.hid hb
    clear hb
    generalize lift.length = n at *
    go_enter Try.func18, Try.ntmps18
    go_wp2_with (go_at_call 53; refine (C1.out _ (by simp)).mono ?_; rintro e w' ⟨rfl, h1⟩)
    go_ret
    exact ⟨ret_i Hb.out, Ext.trans (by simp) h1⟩
end Go.Proofs.Ytbclbcldplmppaa
