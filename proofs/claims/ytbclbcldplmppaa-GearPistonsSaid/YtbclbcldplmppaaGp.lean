/- Pistons: what the code's functions compute. -/
import Derived.Test.YtbclbcldplmppaaMem
import Derived.WalkSpells
import Derived.Lib.Hide
import Derived.WalkLawsBesides
namespace Go.Proofs.Ytbclbcldplmppaa
open Go.RowKit

theorem ret_i {a b : Int} (h : a = b) : Ending.returned (.int .i64 a) = .returned (.int .i64 b) := by rw [h]
theorem ret_b {a b : Bool} (h : a = b) : Ending.returned (.bool a) = .returned (.bool b) := by rw [h]

def withinB (n lo hi : Int) : Bool := decide (lo ≤ n) && decide (n ≤ hi)
theorem withinB_true {n lo hi : Int} : withinB n lo hi = true ↔ lo ≤ n ∧ n ≤ hi := by simp [withinB]
theorem withinB_false {n lo hi : Int} : withinB n lo hi = false ↔ ¬(lo ≤ n ∧ n ≤ hi) := by rw [← withinB_true]; cases withinB n lo hi <;> simp

theorem within_any (n lo hi : Int) (w : World) :
    Calls Try.prog 54 #[.int .i64 n, .int .i64 lo, .int .i64 hi] w fun e w' => e = .returned (.bool (withinB n lo hi)) ∧ w = w' := by
  go_enter Try.func54, Try.ntmps54
  go_wp2
  all_goals go_ret
  all_goals exact ⟨ret_b (by simp [withinB]; omega), rfl⟩

def minTo (xs : List Int) (k : Nat) : Int := ((xs.take k).drop 1).foldl min (getI xs 0)
def maxTo (xs : List Int) (k : Nat) : Int := ((xs.take k).drop 1).foldl max (getI xs 0)

def tickS (lift : List Int) (op st at_ : Int) (t : Nat) : Int := if op ≤ getI lift ((t - 1) % lift.length) then min (at_ + 1) st else max (at_ - 1) 0

set_option maxHeartbeats 400000 in
theorem tick_any (A : Option Addr) (c : Nat) (lift : List Int) (op st x : Int) (t : Nat) (w : World) (hA : Ints w A lift) (hn : 0 < lift.length) (hn2 : lift.length ≤ 100000) (ht : 1 ≤ t) (ht2 : t ≤ 1000000)
    (hx : 0 ≤ x) (hx2 : x ≤ 1000000) :
    Calls Try.prog 52 #[.agg #[.slice A lift.length c, .int .i64 op, .int .i64 st], .int .i64 x, .int .i64 t] w fun e w' => e = .returned (.int .i64 (tickS lift op st x t)) ∧ Ext w w' := by
  obtain ⟨ad, rfl, hc⟩ := hA.some_ hn
  have hc1 := hc ((t - 1) % lift.length) (Nat.mod_lt _ hn)
  clear hc hA
  have b1 := Nat.mod_lt (t - 1) hn
  have hfin : tickS lift op st x t = if op ≤ getI lift ((t - 1) % lift.length) then min (x + 1) st else max (x - 1) 0 := rfl
  generalize hj : (t - 1) % lift.length = j at *
  generalize lift.length = n at *
  generalize getI lift j = y at *
  have Hfin := Lib.hid hfin
  clear hfin
  have e1 : IntKind.i64.wrap ((t : Int) - 1) = ((t - 1 : Nat) : Int) := by rw [IntKind.wrap_i64]; omega
  have e2 : (((t - 1 : Nat) : Int)).tmod (n : Int) = (j : Int) := by
    rw [Int.tmod_eq_emod_of_nonneg (by omega), ← hj]; exact (Int.natCast_emod _ _).symm
  have e3 : ((n : Int) = 0) = False := by simp; omega
  have b2 : (j : Int) < n := by omega
  have e4 : IntKind.i64.wrap (x + 1) = x + 1 := by rw [IntKind.wrap_i64]; omega
  have e5 : IntKind.i64.wrap (x - 1) = x - 1 := by rw [IntKind.wrap_i64]; omega
  clear hj
  go_enter Try.func52, Try.ntmps52
  go_wp2
  go_quiet (fail)
  go_wp2
  all_goals go_ret
  all_goals exact ⟨ret_i (by rw [Hfin.out]; split <;> omega), by simp⟩

theorem foldl_take_succ (f : Int → Int → Int) (xs : List Int) (k : Nat) (hk : k < xs.length) (h1 : 1 ≤ k) (z : Int) : ((xs.take (k + 1)).drop 1).foldl f z = f (((xs.take k).drop 1).foldl f z) (getI xs k) := by
  rw [List.take_succ_eq_append_getElem hk, List.drop_append_of_le_length (by simp; omega), List.foldl_append, getI_eq hk]
  rfl
theorem minTo_succ (xs : List Int) (k : Nat) (hk : k < xs.length) (h1 : 1 ≤ k) : minTo xs (k + 1) = min (minTo xs k) (getI xs k) := foldl_take_succ min xs k hk h1 _
theorem maxTo_succ (xs : List Int) (k : Nat) (hk : k < xs.length) (h1 : 1 ≤ k) : maxTo xs (k + 1) = max (maxTo xs k) (getI xs k) := foldl_take_succ max xs k hk h1 _
theorem minTo_one (xs : List Int) : minTo xs 1 = getI xs 0 := by cases xs <;> simp [minTo]
theorem maxTo_one (xs : List Int) : maxTo xs 1 = getI xs 0 := by cases xs <;> simp [maxTo]
theorem minTo_ge (xs : List Int) (b : Int) : ∀ k, 1 ≤ k → k ≤ xs.length → (b ≤ minTo xs k ↔ ∀ i, i < k → b ≤ getI xs i)
  | 0, h, _ => by omega
  | 1, _, _ => by rw [minTo_one]; exact ⟨fun h i hi => by rw [show i = 0 by omega]; exact h, fun h => h 0 (by omega)⟩
  | k + 2, _, h2 => by
    rw [minTo_succ xs (k + 1) (by omega) (by omega)]
    have ih := minTo_ge xs b (k + 1) (by omega) (by omega)
    constructor
    · intro h i hi
      by_cases hi' : i = k + 1
      · subst hi'; omega
      · exact ih.1 (by omega) i (by omega)
    · intro h
      have h1 := ih.2 (fun i hi => h i (by omega))
      have h2 := h (k + 1) (by omega)
      omega
theorem maxTo_le (xs : List Int) (b : Int) : ∀ k, 1 ≤ k → k ≤ xs.length → (maxTo xs k ≤ b ↔ ∀ i, i < k → getI xs i ≤ b)
  | 0, h, _ => by omega
  | 1, _, _ => by rw [maxTo_one]; exact ⟨fun h i hi => by rw [show i = 0 by omega]; exact h, fun h => h 0 (by omega)⟩
  | k + 2, _, h2 => by
    rw [maxTo_succ xs (k + 1) (by omega) (by omega)]
    have ih := maxTo_le xs b (k + 1) (by omega) (by omega)
    constructor
    · intro h i hi
      by_cases hi' : i = k + 1
      · subst hi'; omega
      · exact ih.1 (by omega) i (by omega)
    · intro h
      have h1 := ih.2 (fun i hi => h i (by omega))
      have h2 := h (k + 1) (by omega)
      omega

set_option maxHeartbeats 400000 in
theorem min_any (A : Option Addr) (c : Nat) (xs : List Int) (w : World) (hA : Ints w A xs) (hn : 0 < xs.length) (hn2 : xs.length ≤ 100000) :
    Calls Try.prog 56 #[.slice A xs.length c] w fun e w' => e = .returned (.int .i64 (minTo xs xs.length)) ∧ w = w' := by
  obtain ⟨ad, rfl, hc, hc0⟩ := hA.some0 hn
  generalize hl : xs.length = n at *
  have Hl := Lib.hid hl
  clear hl
  go_enter Try.func56, Try.ntmps56
  go_wp2
  go_loop [3, 4] (fun m i => ∃ k : Nat, 1 ≤ k ∧ k ≤ n ∧ i = .int .i64 k ∧ m = .int .i64 (minTo xs k)) (fun _ i => n - (intOf i).toNat)
  case atStart => exact ⟨1, by omega, by omega, rfl, by rw [minTo_one]⟩
  case round =>
    obtain ⟨k, hk1, hk2, rfl, rfl⟩ := hrel
    by_cases hlt : k < n
    · have hck := hc k hlt
      have hs := minTo_succ xs k (by rw [Hl.out]; exact hlt) hk1
      have Hs := Lib.hid hs
      clear hs
      go_wp2
      all_goals
        go_round
        case rel => exact ⟨k + 1, by omega, by omega, by go_num, by rw [Hs.out]; congr 1; omega⟩
        case measure => simp [intOf]; omega
    · go_wp2
      go_ret
      exact ⟨ret_i (by rw [show k = n by omega]), rfl⟩

set_option maxHeartbeats 400000 in
theorem max_any (A : Option Addr) (c : Nat) (xs : List Int) (w : World) (hA : Ints w A xs) (hn : 0 < xs.length) (hn2 : xs.length ≤ 100000) :
    Calls Try.prog 57 #[.slice A xs.length c] w fun e w' => e = .returned (.int .i64 (maxTo xs xs.length)) ∧ w = w' := by
  obtain ⟨ad, rfl, hc, hc0⟩ := hA.some0 hn
  generalize hl : xs.length = n at *
  have Hl := Lib.hid hl
  clear hl
  go_enter Try.func57, Try.ntmps57
  go_wp2
  go_loop [3, 4] (fun m i => ∃ k : Nat, 1 ≤ k ∧ k ≤ n ∧ i = .int .i64 k ∧ m = .int .i64 (maxTo xs k)) (fun _ i => n - (intOf i).toNat)
  case atStart => exact ⟨1, by omega, by omega, rfl, by rw [maxTo_one]⟩
  case round =>
    obtain ⟨k, hk1, hk2, rfl, rfl⟩ := hrel
    by_cases hlt : k < n
    · have hck := hc k hlt
      have hs := maxTo_succ xs k (by rw [Hl.out]; exact hlt) hk1
      have Hs := Lib.hid hs
      clear hs
      go_wp2
      all_goals
        go_round
        case rel => exact ⟨k + 1, by omega, by omega, by go_num, by rw [Hs.out]; congr 1; omega⟩
        case measure => simp [intOf]; omega
    · go_wp2
      go_ret
      exact ⟨ret_i (by rw [show k = n by omega]), rfl⟩

def vpP (lift : List Int) (op st : Int) : Prop := 1 ≤ lift.length ∧ lift.length ≤ 24 ∧ (∀ i, i < lift.length → 0 ≤ getI lift i ∧ getI lift i ≤ 100) ∧ 0 ≤ op ∧ op ≤ 100 ∧ 1 ≤ st ∧ st ≤ 20
instance (lift : List Int) (op st : Int) : Decidable (vpP lift op st) := by unfold vpP; infer_instance
def vpB (lift : List Int) (op st : Int) : Bool := decide (vpP lift op st)
def cpS (lift : List Int) (op st : Int) : Int := if vpB lift op st = true then 0 else 2

theorem cp_bad {lift : List Int} {op st : Int} (h : ¬ vpP lift op st) : (2 : Int) = cpS lift op st := by simp [cpS, vpB, h]
theorem cp_good {lift : List Int} {op st : Int} (h : vpP lift op st) : (0 : Int) = cpS lift op st := by simp [cpS, vpB, h]

set_option maxHeartbeats 400000 in
theorem check_piston (A : Option Addr) (c : Nat) (lift : List Int) (op st : Int) (w : World) (hA : Ints w A lift) (hn2 : lift.length ≤ 100000) :
    Calls Try.prog 17 #[.agg #[.slice A lift.length c, .int .i64 op, .int .i64 st]] w fun e w' => e = .returned (.int .i64 (cpS lift op st)) ∧ Ext w w' := by
  by_cases hn : 0 < lift.length
  · have hmin := minTo_ge lift 0 lift.length hn (Nat.le_refl _)
    have hmax := maxTo_le lift 100 lift.length hn (Nat.le_refl _)
    have good : lift.length ≤ 24 → 0 ≤ minTo lift lift.length → maxTo lift lift.length ≤ 100 → 0 ≤ op → op ≤ 100 → 1 ≤ st → st ≤ 20 → (0 : Int) = cpS lift op st :=
      fun h1 h2 h3 h4 h5 h6 h7 => cp_good ⟨hn, h1, fun i hi => ⟨hmin.1 h2 i hi, hmax.1 h3 i hi⟩, h4, h5, h6, h7⟩
    have bad : ¬ (lift.length ≤ 24 ∧ 0 ≤ minTo lift lift.length ∧ maxTo lift lift.length ≤ 100 ∧ 0 ≤ op ∧ op ≤ 100 ∧ 1 ≤ st ∧ st ≤ 20) → (2 : Int) = cpS lift op st :=
      fun h => cp_bad fun hh => h ⟨hh.2.1, hmin.2 fun i hi => (hh.2.2.1 i hi).1, hmax.2 fun i hi => (hh.2.2.1 i hi).2, hh.2.2.2⟩
    have cmin := fun (w' : World) (he : Ext w w') => min_any A c lift w' (hA.ext he) hn hn2
    have cmax := fun (w' : World) (he : Ext w w') => max_any A c lift w' (hA.ext he) hn hn2
    have Good := Lib.hid good
    have Bad := Lib.hid bad
    have Cmin := Lib.hid cmin
    have Cmax := Lib.hid cmax
    clear good bad cmin cmax hmin hmax hA
    generalize minTo lift lift.length = m1 at *
    generalize maxTo lift lift.length = m2 at *
    generalize lift.length = n at *
    go_enter Try.func17, Try.ntmps17
    go_wp2_with (first
      | (go_at_call 56; refine (Cmin.out _ (by simp)).mono ?_; rintro e w' ⟨rfl, rfl⟩)
      | (go_at_call 57; refine (Cmax.out _ (by simp)).mono ?_; rintro e w' ⟨rfl, rfl⟩))
    all_goals go_ret
    all_goals refine ⟨ret_i ?_, by simp⟩
    all_goals first | exact Bad.out (by omega) | exact Good.out (by omega) (by omega) (by omega) (by omega) (by omega) (by omega) (by omega)
  · have h0 : lift.length = 0 := by omega
    have hbad : (2 : Int) = cpS lift op st := cp_bad fun h => hn h.1
    have Bad := Lib.hid hbad
    clear hbad
    rw [h0]
    go_enter Try.func17, Try.ntmps17
    go_wp2
    go_ret
    exact ⟨ret_i Bad.out, by simp⟩
end Go.Proofs.Ytbclbcldplmppaa
