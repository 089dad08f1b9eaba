/- Pistons: what the code's functions compute. -/
import Derived.Test.YtebkhdhhajjhfaaGreatU01
import Derived.WalkSpells
import Derived.Lib.Hide
import Derived.WalkLawsBesides
namespace Go.Proofs.YtebkhdhhajjhfaaGreat.Gr
open Go.RowKit

theorem ret_i {a b : Int} (h : a = b) : Ending.returned (.int .i64 a) = .returned (.int .i64 b) := by rw [h]
theorem ret_b {a b : Bool} (h : a = b) : Ending.returned (.bool a) = .returned (.bool b) := by rw [h]

def withinB (n lo hi : Int) : Bool := decide (lo ≤ n) && decide (n ≤ hi)
theorem withinB_true {n lo hi : Int} : withinB n lo hi = true ↔ lo ≤ n ∧ n ≤ hi := by simp [withinB]
theorem withinB_false {n lo hi : Int} : withinB n lo hi = false ↔ ¬(lo ≤ n ∧ n ≤ hi) := by rw [← withinB_true]; cases withinB n lo hi <;> simp

theorem within_any (n lo hi : Int) (w : World) :
    Calls Tryz.prog 26 #[.int .i64 n, .int .i64 lo, .int .i64 hi] w fun e w' => e = .returned (.bool (withinB n lo hi)) ∧ w = w' := by
  go_enter Tryz.func26, Tryz.ntmps26
  go_wp2
  all_goals go_ret
  all_goals exact ⟨ret_b (by simp [withinB]; omega), rfl⟩

def minTo (xs : List Int) (k : Nat) : Int := ((xs.take k).drop 1).foldl min (getI xs 0)
def maxTo (xs : List Int) (k : Nat) : Int := ((xs.take k).drop 1).foldl max (getI xs 0)

def tickS (lift : List Int) (op st at_ : Int) (t : Nat) : Int := if op ≤ getI lift ((t - 1) % lift.length) then min (at_ + 1) st else max (at_ - 1) 0

set_option maxHeartbeats 400000 in
theorem tick_any (A : Option Addr) (c : Nat) (lift : List Int) (op st x : Int) (t : Nat) (w : World) (hA : Ints w A lift) (hn : 0 < lift.length) (hn2 : lift.length ≤ 100000) (ht : 1 ≤ t) (ht2 : t ≤ 1000000)
    (hx : 0 ≤ x) (hx2 : x ≤ 1000000) :
    Calls Tryz.prog 69 #[.agg #[.slice A lift.length c, .int .i64 op, .int .i64 st], .int .i64 x, .int .i64 t] w fun e w' => e = .returned (.int .i64 (tickS lift op st x t)) ∧ Ext w w' := by
  obtain ⟨ad, rfl, hc⟩ := hA.some_ hn
  have hc1 := hc ((t - 1) % lift.length) (Nat.mod_lt _ hn)
  clear hc hA
  have b1 := Nat.mod_lt (t - 1) hn
  have hfin : tickS lift op st x t = if op ≤ getI lift ((t - 1) % lift.length) then min (x + 1) st else max (x - 1) 0 := rfl
  generalize hj : (t - 1) % lift.length = j at *
  generalize lift.length = n at *
  generalize getI lift j = y at *
  have Hfin := Lib.hid hfin
  clear hfin
  have e1 : IntKind.i64.wrap ((t : Int) - 1) = ((t - 1 : Nat) : Int) := by rw [IntKind.wrap_i64]; omega
  have e2 : (((t - 1 : Nat) : Int)).tmod (n : Int) = (j : Int) := by
    rw [Int.tmod_eq_emod_of_nonneg (by omega), ← hj]; exact (Int.natCast_emod _ _).symm
  have e3 : ((n : Int) = 0) = False := by simp; omega
  have b2 : (j : Int) < n := by omega
  have e4 : IntKind.i64.wrap (x + 1) = x + 1 := by rw [IntKind.wrap_i64]; omega
  have e5 : IntKind.i64.wrap (x - 1) = x - 1 := by rw [IntKind.wrap_i64]; omega
  clear hj
  go_enter Tryz.func69, Tryz.ntmps69
  go_wp2
  go_quiet (fail)
  go_wp2
  all_goals go_ret
  all_goals exact ⟨ret_i (by rw [Hfin.out]; split <;> omega), by simp⟩

theorem foldl_take_succ (f : Int → Int → Int) (xs : List Int) (k : Nat) (hk : k < xs.length) (h1 : 1 ≤ k) (z : Int) : ((xs.take (k + 1)).drop 1).foldl f z = f (((xs.take k).drop 1).foldl f z) (getI xs k) := by
  rw [List.take_succ_eq_append_getElem hk, List.drop_append_of_le_length (by simp; omega), List.foldl_append, getI_eq hk]
  rfl
theorem minTo_succ (xs : List Int) (k : Nat) (hk : k < xs.length) (h1 : 1 ≤ k) : minTo xs (k + 1) = min (minTo xs k) (getI xs k) := foldl_take_succ min xs k hk h1 _
theorem maxTo_succ (xs : List Int) (k : Nat) (hk : k < xs.length) (h1 : 1 ≤ k) : maxTo xs (k + 1) = max (maxTo xs k) (getI xs k) := foldl_take_succ max xs k hk h1 _
theorem minTo_one (xs : List Int) : minTo xs 1 = getI xs 0 := by cases xs <;> simp [minTo]
theorem maxTo_one (xs : List Int) : maxTo xs 1 = getI xs 0 := by cases xs <;> simp [maxTo]
theorem minTo_ge (xs : List Int) (b : Int) : ∀ k, 1 ≤ k → k ≤ xs.length → (b ≤ minTo xs k ↔ ∀ i, i < k → b ≤ getI xs i)
  | 0, h, _ => by omega
  | 1, _, _ => by rw [minTo_one]; exact ⟨fun h i hi => by rw [show i = 0 by omega]; exact h, fun h => h 0 (by omega)⟩
  | k + 2, _, h2 => by
    rw [minTo_succ xs (k + 1) (by omega) (by omega)]
    have ih := minTo_ge xs b (k + 1) (by omega) (by omega)
    constructor
    · intro h i hi
      by_cases hi' : i = k + 1
      · subst hi'; omega
      · exact ih.1 (by omega) i (by omega)
    · intro h
      have h1 := ih.2 (fun i hi => h i (by omega))
      have h2 := h (k + 1) (by omega)
      omega
theorem maxTo_le (xs : List Int) (b : Int) : ∀ k, 1 ≤ k → k ≤ xs.length → (maxTo xs k ≤ b ↔ ∀ i, i < k → getI xs i ≤ b)
  | 0, h, _ => by omega
  | 1, _, _ => by rw [maxTo_one]; exact ⟨fun h i hi => by rw [show i = 0 by omega]; exact h, fun h => h 0 (by omega)⟩
  | k + 2, _, h2 => by
    rw [maxTo_succ xs (k + 1) (by omega) (by omega)]
    have ih := maxTo_le xs b (k + 1) (by omega) (by omega)
    constructor
    · intro h i hi
      by_cases hi' : i = k + 1
      · subst hi'; omega
      · exact ih.1 (by omega) i (by omega)
    · intro h
      have h1 := ih.2 (fun i hi => h i (by omega))
      have h2 := h (k + 1) (by omega)
      omega

set_option maxHeartbeats 400000 in
theorem min_any (A : Option Addr) (c : Nat) (xs : List Int) (w : World) (hA : Ints w A xs) (hn : 0 < xs.length) (hn2 : xs.length ≤ 100000) :
    Calls Tryz.prog 100 #[.slice A xs.length c] w fun e w' => e = .returned (.int .i64 (minTo xs xs.length)) ∧ w = w' := by
  obtain ⟨ad, rfl, hc, hc0⟩ := hA.some0 hn
  generalize hl : xs.length = n at *
  have Hl := Lib.hid hl
  clear hl
  go_enter Tryz.func100, Tryz.ntmps100
  go_wp2
  go_loop [3, 4] (fun m i => ∃ k : Nat, 1 ≤ k ∧ k ≤ n ∧ i = .int .i64 k ∧ m = .int .i64 (minTo xs k)) (fun _ i => n - (intOf i).toNat)
  case atStart => exact ⟨1, by omega, by omega, rfl, by rw [minTo_one]⟩
  case round =>
    obtain ⟨k, hk1, hk2, rfl, rfl⟩ := hrel
    by_cases hlt : k < n
    · have hck := hc k hlt
      have hs := minTo_succ xs k (by rw [Hl.out]; exact hlt) hk1
      have Hs := Lib.hid hs
      clear hs
      go_wp2
      all_goals
        go_round
        case rel => exact ⟨k + 1, by omega, by omega, by go_num, by rw [Hs.out]; congr 1; omega⟩
        case measure => simp [intOf]; omega
    · go_wp2
      go_ret
      exact ⟨ret_i (by rw [show k = n by omega]), rfl⟩

set_option maxHeartbeats 400000 in
theorem max_any (A : Option Addr) (c : Nat) (xs : List Int) (w : World) (hA : Ints w A xs) (hn : 0 < xs.length) (hn2 : xs.length ≤ 100000) :
    Calls Tryz.prog 101 #[.slice A xs.length c] w fun e w' => e = .returned (.int .i64 (maxTo xs xs.length)) ∧ w = w' := by
  obtain ⟨ad, rfl, hc, hc0⟩ := hA.some0 hn
  generalize hl : xs.length = n at *
  have Hl := Lib.hid hl
  clear hl
  go_enter Tryz.func101, Tryz.ntmps101
  go_wp2
  go_loop [3, 4] (fun m i => ∃ k : Nat, 1 ≤ k ∧ k ≤ n ∧ i = .int .i64 k ∧ m = .int .i64 (maxTo xs k)) (fun _ i => n - (intOf i).toNat)
  case atStart => exact ⟨1, by omega, by omega, rfl, by rw [maxTo_one]⟩
  case round =>
    obtain ⟨k, hk1, hk2, rfl, rfl⟩ := hrel
    by_cases hlt : k < n
    · have hck := hc k hlt
      have hs := maxTo_succ xs k (by rw [Hl.out]; exact hlt) hk1
      have Hs := Lib.hid hs
      clear hs
      go_wp2
      all_goals
        go_round
        case rel => exact ⟨k + 1, by omega, by omega, by go_num, by rw [Hs.out]; congr 1; omega⟩
        case measure => simp [intOf]; omega
    · go_wp2
      go_ret
      exact ⟨ret_i (by rw [show k = n by omega]), rfl⟩

def vpP (lift : List Int) (op st : Int) : Prop := 1 ≤ lift.length ∧ lift.length ≤ 24 ∧ (∀ i, i < lift.length → 0 ≤ getI lift i ∧ getI lift i ≤ 100) ∧ 0 ≤ op ∧ op ≤ 100 ∧ 1 ≤ st ∧ st ≤ 20
instance (lift : List Int) (op st : Int) : Decidable (vpP lift op st) := by unfold vpP; infer_instance
def vpB (lift : List Int) (op st : Int) : Bool := decide (vpP lift op st)
def cpS (lift : List Int) (op st : Int) : Int := if vpB lift op st = true then 0 else 2

theorem cp_bad {lift : List Int} {op st : Int} (h : ¬ vpP lift op st) : (2 : Int) = cpS lift op st := by simp [cpS, vpB, h]
theorem cp_good {lift : List Int} {op st : Int} (h : vpP lift op st) : (0 : Int) = cpS lift op st := by simp [cpS, vpB, h]

set_option maxHeartbeats 400000 in
theorem check_piston (A : Option Addr) (c : Nat) (lift : List Int) (op st : Int) (w : World) (hA : Ints w A lift) (hn2 : lift.length ≤ 100000) :
    Calls Tryz.prog 68 #[.agg #[.slice A lift.length c, .int .i64 op, .int .i64 st]] w fun e w' => e = .returned (.int .i64 (cpS lift op st)) ∧ Ext w w' := by
  by_cases hn : 0 < lift.length
  · have hmin := minTo_ge lift 0 lift.length hn (Nat.le_refl _)
    have hmax := maxTo_le lift 100 lift.length hn (Nat.le_refl _)
    have good : lift.length ≤ 24 → 0 ≤ minTo lift lift.length → maxTo lift lift.length ≤ 100 → 0 ≤ op → op ≤ 100 → 1 ≤ st → st ≤ 20 → (0 : Int) = cpS lift op st :=
      fun h1 h2 h3 h4 h5 h6 h7 => cp_good ⟨hn, h1, fun i hi => ⟨hmin.1 h2 i hi, hmax.1 h3 i hi⟩, h4, h5, h6, h7⟩
    have bad : ¬ (lift.length ≤ 24 ∧ 0 ≤ minTo lift lift.length ∧ maxTo lift lift.length ≤ 100 ∧ 0 ≤ op ∧ op ≤ 100 ∧ 1 ≤ st ∧ st ≤ 20) → (2 : Int) = cpS lift op st :=
      fun h => cp_bad fun hh => h ⟨hh.2.1, hmin.2 fun i hi => (hh.2.2.1 i hi).1, hmax.2 fun i hi => (hh.2.2.1 i hi).2, hh.2.2.2⟩
    have cmin := fun (w' : World) (he : Ext w w') => min_any A c lift w' (hA.ext he) hn hn2
    have cmax := fun (w' : World) (he : Ext w w') => max_any A c lift w' (hA.ext he) hn hn2
    have Good := Lib.hid good
    have Bad := Lib.hid bad
    have Cmin := Lib.hid cmin
    have Cmax := Lib.hid cmax
    clear good bad cmin cmax hmin hmax hA
    generalize minTo lift lift.length = m1 at *
    generalize maxTo lift lift.length = m2 at *
    generalize lift.length = n at *
    go_enter Tryz.func68, Tryz.ntmps68
    go_wp2_with (first
      | (go_at_call 100; refine (Cmin.out _ (by simp)).mono ?_; rintro e w' ⟨rfl, rfl⟩)
      | (go_at_call 101; refine (Cmax.out _ (by simp)).mono ?_; rintro e w' ⟨rfl, rfl⟩))
    all_goals go_ret
    all_goals refine ⟨ret_i ?_, by simp⟩
    all_goals first | exact Bad.out (by omega) | exact Good.out (by omega) (by omega) (by omega) (by omega) (by omega) (by omega) (by omega)
  · have h0 : lift.length = 0 := by omega
    have hbad : (2 : Int) = cpS lift op st := cp_bad fun h => hn h.1
    have Bad := Lib.hid hbad
    clear hbad
    rw [h0]
    go_enter Tryz.func68, Tryz.ntmps68
    go_wp2
    go_ret
    exact ⟨ret_i Bad.out, by simp⟩
end Go.Proofs.YtebkhdhhajjhfaaGreat.Gr

/- Pistons, second text: places, by the code and by the reference. -/
namespace Go.Proofs.YtebkhdhhajjhfaaGreat.Gr
open Go.RowKit

theorem vpB_eq {lift : List Int} {op st : Int} {b : Bool} (h : b = true ↔ vpP lift op st) : b = vpB lift op st := by
  cases b <;> simp [vpB] at h ⊢ <;> exact h

set_option maxHeartbeats 400000 in
theorem valid_piston (A : Option Addr) (c : Nat) (lift : List Int) (op st : Int) (w : World) (hA : Ints w A lift) (hn2 : lift.length ≤ 100000) :
    Calls Tryz.prog 9 #[.agg #[.slice A lift.length c, .int .i64 op, .int .i64 st]] w fun e w' => e = .returned (.bool (vpB lift op st)) ∧ Ext w w' := by
  cases h1 : withinB (lift.length : Int) 1 24
  · have hb : false = vpB lift op st := vpB_eq ⟨fun h => (by cases h), fun h => by rw [withinB_false] at h1; have := h.1; have := h.2.1; omega⟩
    have Hb := Lib.hid hb
    clear hb
    generalize lift.length = n at *
    go_enter Tryz.func9, Tryz.ntmps9
    go_wp2_with (go_at_call 26; refine (within_any _ _ _ _).mono ?_; rintro e w' ⟨rfl, rfl⟩)
    go_ret
    exact ⟨ret_b Hb.out, by simp⟩
  cases h2 : withinB op 0 100
  · have hb : false = vpB lift op st := vpB_eq ⟨fun h => (by cases h), fun h => by rw [withinB_false] at h2; have := h.2.2.2; omega⟩
    have Hb := Lib.hid hb
    clear hb
    generalize lift.length = n at *
    go_enter Tryz.func9, Tryz.ntmps9
    go_wp2_with (go_at_call 26; refine (within_any _ _ _ _).mono ?_; rintro e w' ⟨rfl, rfl⟩)
    go_ret
    exact ⟨ret_b Hb.out, by simp⟩
  cases h3 : withinB st 1 20
  · have hb : false = vpB lift op st := vpB_eq ⟨fun h => (by cases h), fun h => by rw [withinB_false] at h3; have := h.2.2.2; omega⟩
    have Hb := Lib.hid hb
    clear hb
    generalize lift.length = n at *
    go_enter Tryz.func9, Tryz.ntmps9
    go_wp2_with (go_at_call 26; refine (within_any _ _ _ _).mono ?_; rintro e w' ⟨rfl, rfl⟩)
    go_ret
    exact ⟨ret_b Hb.out, by simp⟩
  have hw1 := withinB_true.1 h1
  have hw2 := withinB_true.1 h2
  have hw3 := withinB_true.1 h3
  obtain ⟨ad, rfl, hc, hc0⟩ := hA.some0 (by omega)
  have hgood : (∀ i, i < lift.length → withinB (getI lift i) 0 100 = true) → true = vpB lift op st := fun h => vpB_eq ⟨fun _ => ⟨by omega, by omega, fun i hi => withinB_true.1 (h i hi), by omega, by omega, hw3⟩, fun _ => rfl⟩
  have hbad : ∀ i, i < lift.length → withinB (getI lift i) 0 100 = false → false = vpB lift op st := fun i hi h => vpB_eq ⟨fun h => (by cases h), fun hh => by rw [withinB_false] at h; exact absurd (hh.2.2.1 i hi) h⟩
  have Good := Lib.hid hgood
  have Bad := Lib.hid hbad
  have hn : 0 < lift.length := by omega
  clear hgood hbad hA hw1 hw2 hw3
  generalize lift.length = n at *
  go_enter Tryz.func9, Tryz.ntmps9
  go_wp2_with (go_at_call 26; refine (within_any _ _ _ _).mono ?_; rintro e w' ⟨rfl, rfl⟩)
  go_loop [3] (fun i => ∃ k : Nat, k ≤ n ∧ i = .int .i64 k ∧ ∀ j, j < k → withinB (getI lift j) 0 100 = true) (fun i => n - (intOf i).toNat)
  case atStart => exact ⟨0, by omega, rfl, fun j hj => by omega⟩
  case round =>
    obtain ⟨k, hk2, rfl, hall⟩ := hrel
    have Hall := Lib.hid hall
    clear hall
    by_cases hlt : k < n
    · have hck := hc k hlt
      cases hy : withinB (getI lift k) 0 100
      · go_wp2_with (go_at_call 26; refine (within_any _ _ _ _).mono ?_; rintro e w' ⟨rfl, rfl⟩)
        go_ret
        exact ⟨ret_b (Bad.out k hlt hy), by simp⟩
      · go_wp2_with (go_at_call 26; refine (within_any _ _ _ _).mono ?_; rintro e w' ⟨rfl, rfl⟩)
        go_round
        case rel => exact ⟨k + 1, by omega, by go_num, fun j hj => by
          by_cases hjk : j = k
          · rw [hjk]; exact hy
          · exact Hall.out j (by omega)⟩
        case measure => simp [intOf]; omega
    · go_wp2
      go_ret
      exact ⟨ret_b (Good.out fun i hi => Hall.out i (by omega)), by simp⟩

end Go.Proofs.YtebkhdhhajjhfaaGreat.Gr

/- Pistons, third text: the places, by the code (stores into a made slice) and by the reference (appends). -/
namespace Go.Proofs.YtebkhdhhajjhfaaGreat.Gr
open Go.RowKit

def placeS (lift : List Int) (op st : Int) : Nat → Int
  | 0 => 0
  | t + 1 => tickS lift op st (placeS lift op st t) (t + 1)

/-- The first t of n numbers are those of f, the others are 0. -/
def fill (f : Nat → Int) (n t : Nat) : List Int := (List.range n).map fun i => if i < t then f i else 0
theorem fill_length (f : Nat → Int) (n t : Nat) : (fill f n t).length = n := by simp [fill]
theorem fill_get (f : Nat → Int) (n t i : Nat) (hi : i < n) (ht : i < t) : getI (fill f n t) i = f i := by simp [getI, fill, hi, ht]
theorem fill_set (f : Nat → Int) (n t : Nat) : (fill f n t).set t (f t) = fill f n (t + 1) := by
  apply List.ext_getElem
  · simp [fill]
  · intro i h1 h2
    simp only [fill, List.getElem_set, List.getElem_map, List.getElem_range]
    by_cases hi : t = i
    · subst hi; simp
    · rw [if_neg hi]
      by_cases h3 : i < t
      · rw [if_pos h3, if_pos (by omega)]
      · rw [if_neg h3, if_neg (by omega)]
theorem fill_zero (f : Nat → Int) (n : Nat) : (madeCells (Value.cells (.int .i64 0)) (n * 1)).toList = (fill f n 0).map vint := by
  apply List.ext_getElem
  · simp [fill, madeCells]
  · intro i h1 h2
    simp [fill, madeCells, Value.cells, Nat.mod_one]
theorem fill_all (f : Nat → Int) (n : Nat) : fill f n n = (List.range n).map f := by
  apply List.map_congr_left
  intro i hi
  rw [if_pos (by simpa using hi)]
theorem fill_one (f : Nat → Int) (n : Nat) (h0 : f 0 = 0) : fill f n 0 = fill f n 1 := by
  apply List.map_congr_left
  intro i hi
  by_cases h : i = 0
  · subst h; simp [h0]
  · rw [if_neg (by omega), if_neg (by omega)]

theorem tick_bd (lift : List Int) (op st x : Int) (t : Nat) (h0 : 0 ≤ x) (h1 : x ≤ st) (hs : 1 ≤ st) : 0 ≤ tickS lift op st x t ∧ tickS lift op st x t ≤ st := by
  unfold tickS
  split <;> omega
theorem place_bd (lift : List Int) (op st : Int) (hs : 1 ≤ st) : ∀ t, 0 ≤ placeS lift op st t ∧ placeS lift op st t ≤ st
  | 0 => by simp [placeS]; omega
  | t + 1 => by
    have := place_bd lift op st hs t
    exact tick_bd lift op st _ _ this.1 this.2 hs

def placesL (lift : List Int) (op st : Int) (n : Nat) : List Int := (List.range n).map (placeS lift op st)

set_option maxHeartbeats 400000 in
theorem places_good (A : Option Addr) (c : Nat) (lift : List Int) (op st : Int) (ticks : Nat) (w : World) (hA : Ints w A lift) (hn2 : lift.length ≤ 100000) (hv : vpB lift op st = true) (ht : ticks ≤ 10000) :
    Calls Tryz.prog 33 #[.agg #[.slice A lift.length c, .int .i64 op, .int .i64 st], .int .i64 ticks] w fun e w' => ∃ v, e = .returned (.tuple #[v, .int .i64 0]) ∧ OwnI w w' v (placesL lift op st (ticks + 1)) := by
  have hvp : vpP lift op st := by simpa [vpB] using hv
  have hn : 0 < lift.length := by have := hvp.1; omega
  have c1 := fun (w' : World) (he : Ext w w') => check_piston A c lift op st w' (hA.ext he) hn2
  have hb : cpS lift op st = 0 := by simp [cpS, hv]
  rw [hb] at c1
  have c2 := fun (x : Int) (t : Nat) (h1 : 1 ≤ t) (h2 : t ≤ 1000000) (h3 : 0 ≤ x) (h4 : x ≤ 1000000) (w' : World) (he : Ext w w') => tick_any A c lift op st x t w' (hA.ext he) hn hn2 h1 h2 h3 h4
  have C1 := Lib.hid c1
  have C2 := Lib.hid c2
  clear c1 c2 hb hv
  generalize lift.length = n at *
  go_enter Tryz.func33, Tryz.ntmps33
  go_wp2_with (first
    | (go_at_call 68; refine (C1.out _ (by simp)).mono ?_; rintro e w1 ⟨rfl, h1⟩)
    | (refine own_make (w1 := w1) int_elem rfl _ _ rfl Tryz.underlying26 _ (ticks + 1) rfl (by omega) (by omega) (by unfold maxLen; omega) (Ext.refl _) ?_; intro w2 hown hx))
  have hp0 : ∀ w', Ext w1 w' → w'.cell? ⟨w.heap.size, 0, none⟩ = some (.slice A n c) := fun w' he => (h1.trans he).cell (by simp)
  have hp1 : ∀ w', Ext w1 w' → w'.cell? ⟨w.heap.size, 1, none⟩ = some (.int .i64 op) := fun w' he => (h1.trans he).cell (by simp)
  have hp2 : ∀ w', Ext w1 w' → w'.cell? ⟨w.heap.size, 2, none⟩ = some (.int .i64 st) := fun w' he => (h1.trans he).cell (by simp)
  have hw1 : Ext w w1 := Ext.trans (by simp) h1
  have hown1 : Own w1 w2 3 1 (.slice (some ⟨w1.heap.size, 0, none⟩) (ticks + 1) (ticks + 1)) (ticks + 1) ((fill (placeS lift op st) (ticks + 1) 1).map vint) := by
    rw [← fill_one (placeS lift op st) _ rfl, ← fill_zero]; exact hown
  clear hown
  go_loopw [7] (fun i wr => ∃ k : Nat, 1 ≤ k ∧ k ≤ ticks + 1 ∧ i = .int .i64 k ∧ Own w1 wr 3 1 (.slice (some ⟨w1.heap.size, 0, none⟩) (ticks + 1) (ticks + 1)) (ticks + 1) ((fill (placeS lift op st) (ticks + 1) k).map vint)) (fun i _ => ticks + 1 - (intOf i).toNat)
  case atStart => exact ⟨1, by omega, by omega, rfl, hown1⟩
  case round =>
    obtain ⟨k, hk1, hk2, rfl, hown⟩ := hrel
    by_cases hlt : k ≤ ticks
    · have hex := hown.ext
      have hck : ∀ w', Ext wr w' → w'.cell? ⟨w1.heap.size, k - 1, none⟩ = some (.int .i64 (placeS lift op st (k - 1))) := fun w' he => he.cell (by
        rw [hown.cell (by simp [fill_length]; omega)]
        rw [show (List.map vint (fill (placeS lift op st) (ticks + 1) k))[k - 1]? = some (vint (getI (fill (placeS lift op st) (ticks + 1) k) (k - 1))) by simp [getI, fill_length, show k - 1 < ticks + 1 by omega]]
        rw [fill_get _ _ _ _ (by omega) (by omega)])
      have hp0 : ∀ w', Ext wr w' → w'.cell? ⟨w.heap.size, 0, none⟩ = some (.slice A n c) := fun w' he => hp0 w' (hex.trans he)
      have hp1 : ∀ w', Ext wr w' → w'.cell? ⟨w.heap.size, 1, none⟩ = some (.int .i64 op) := fun w' he => hp1 w' (hex.trans he)
      have hp2 : ∀ w', Ext wr w' → w'.cell? ⟨w.heap.size, 2, none⟩ = some (.int .i64 st) := fun w' he => hp2 w' (hex.trans he)
      have e2 : IntKind.i64.wrap ((k : Int) - 1) = ((k - 1 : Nat) : Int) := by rw [IntKind.wrap_i64]; omega
      have b1 : ((k - 1 : Nat) : Int) < ((ticks + 1 : Nat) : Int) := by omega
      have hbd := place_bd lift op st hvp.2.2.2.2.2.1 (k - 1)
      have hst := hvp.2.2.2.2.2.2
      have hs : placeS lift op st k = tickS lift op st (placeS lift op st (k - 1)) k := by
        obtain ⟨j, rfl⟩ : ∃ j, k = j + 1 := ⟨k - 1, by omega⟩
        rfl
      have Hs := Lib.hid hs
      clear hs
      go_wp2
      refine wp_region_calm 10 (fun _ _ v _ => v = .int .i64 (placeS lift op st k)) (fun _ _ _ _ _ _ h => h) (by kernel_rfl) (by kernel_rfl) ?_
      simp only [List.take_succ_cons, List.take_zero, List.drop_succ_cons, List.drop_zero]
      refine calm_quiet calm_mono_final 9 (by kernel_rfl) ?_
      simp only [List.take_succ_cons, List.take_zero, List.drop_succ_cons, List.drop_zero]
      repeat (go_big_quiet_step (fail))
      refine wpQuiet_nil ?_
      refine calm_call calm_mono_final 69 #[.agg #[.slice A n c, .int .i64 op, .int .i64 st], .int .i64 (placeS lift op st (k - 1)), .int .i64 k] rfl (fun w => ?_) (fun w he _ => ?_) ?_
      · go_simp
      · exact (C2.out _ _ hk1 (by omega) (by omega) (by omega) w (hw1.trans (hex.trans he))).mono fun e w'' ⟨he', hx⟩ => ⟨_, he', hx, by rw [Hs.out]⟩
      rintro _ _ _ rfl
      refine calm_nil fun w3 he3 _ => ?_
      have hown3 := hown.later he3
      obtain ⟨z, hz⟩ : ∃ z, w3.cell? ⟨w1.heap.size, k, none⟩ = some z := ⟨_, (hown3.cell (j := k) (by simp [fill_length]; omega)).trans (List.getElem?_eq_getElem (by simp [fill_length]; omega))⟩
      have hf := hown3.free k
      have b2 : (k : Int) < ((ticks + 1 : Nat) : Int) := by omega
      go_wp2
      go_roundw
      case rel => 
        refine ⟨k + 1, by omega, by omega, by go_num, ?_⟩
        rw [← fill_set, List.map_set]
        exact hown3.store k _
      case measure => simp [intOf]; omega
    · go_wp2
      go_ret2
      have hk : k = ticks + 1 := by omega
      subst hk
      refine ⟨_, rfl, ?_⟩
      rw [fill_all] at hown
      have hown := hown.since hw1
      simpa [OwnI, placesL] using hown
end Go.Proofs.YtebkhdhhajjhfaaGreat.Gr
