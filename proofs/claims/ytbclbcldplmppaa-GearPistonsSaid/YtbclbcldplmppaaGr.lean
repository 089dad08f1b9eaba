/- Pistons, third text: the places, by the code (stores into a made slice) and by the reference (appends). -/
import Derived.Test.YtbclbcldplmppaaGq
import Derived.Test.YtbclbcldplmppaaOwn
namespace Go.Proofs.Ytbclbcldplmppaa
open Go.RowKit

def placeS (lift : List Int) (op st : Int) : Nat → Int
  | 0 => 0
  | t + 1 => tickS lift op st (placeS lift op st t) (t + 1)

/-- The first t of n numbers are those of f, the others are 0. -/
def fill (f : Nat → Int) (n t : Nat) : List Int := (List.range n).map fun i => if i < t then f i else 0
theorem fill_length (f : Nat → Int) (n t : Nat) : (fill f n t).length = n := by simp [fill]
theorem fill_get (f : Nat → Int) (n t i : Nat) (hi : i < n) (ht : i < t) : getI (fill f n t) i = f i := by simp [getI, fill, hi, ht]
theorem fill_set (f : Nat → Int) (n t : Nat) : (fill f n t).set t (f t) = fill f n (t + 1) := by
  apply List.ext_getElem
  · simp [fill]
  · intro i h1 h2
    simp only [fill, List.getElem_set, List.getElem_map, List.getElem_range]
    by_cases hi : t = i
    · subst hi; simp
    · rw [if_neg hi]
      by_cases h3 : i < t
      · rw [if_pos h3, if_pos (by omega)]
      · rw [if_neg h3, if_neg (by omega)]
theorem fill_zero (f : Nat → Int) (n : Nat) : (madeCells (Value.cells (.int .i64 0)) (n * 1)).toList = (fill f n 0).map vint := by
  apply List.ext_getElem
  · simp [fill, madeCells]
  · intro i h1 h2
    simp [fill, madeCells, Value.cells, Nat.mod_one]
theorem fill_all (f : Nat → Int) (n : Nat) : fill f n n = (List.range n).map f := by
  apply List.map_congr_left
  intro i hi
  rw [if_pos (by simpa using hi)]
theorem fill_one (f : Nat → Int) (n : Nat) (h0 : f 0 = 0) : fill f n 0 = fill f n 1 := by
  apply List.map_congr_left
  intro i hi
  by_cases h : i = 0
  · subst h; simp [h0]
  · rw [if_neg (by omega), if_neg (by omega)]

theorem tick_bd (lift : List Int) (op st x : Int) (t : Nat) (h0 : 0 ≤ x) (h1 : x ≤ st) (hs : 1 ≤ st) : 0 ≤ tickS lift op st x t ∧ tickS lift op st x t ≤ st := by
  unfold tickS
  split <;> omega
theorem place_bd (lift : List Int) (op st : Int) (hs : 1 ≤ st) : ∀ t, 0 ≤ placeS lift op st t ∧ placeS lift op st t ≤ st
  | 0 => by simp [placeS]; omega
  | t + 1 => by
    have := place_bd lift op st hs t
    exact tick_bd lift op st _ _ this.1 this.2 hs

def placesL (lift : List Int) (op st : Int) (n : Nat) : List Int := (List.range n).map (placeS lift op st)

set_option maxHeartbeats 400000 in
theorem places_bad (A : Option Addr) (c : Nat) (lift : List Int) (op st : Int) (ticks : Int) (w : World) (hA : Ints w A lift) (hn2 : lift.length ≤ 100000) (hbad : ¬ (vpB lift op st = true ∧ 0 ≤ ticks ∧ ticks ≤ 10000)) :
    Calls Try.prog 14 #[.agg #[.slice A lift.length c, .int .i64 op, .int .i64 st], .int .i64 ticks] w fun e w' => e = .returned (.tuple #[.slice none 0 0, .int .i64 2]) ∧ Ext w w' := by
  have c1 := fun (w' : World) (he : Ext w w') => check_piston A c lift op st w' (hA.ext he) hn2
  have C1 := Lib.hid c1
  clear c1
  generalize lift.length = n at *
  cases hv : vpB lift op st
  · have hb : cpS lift op st = 2 := by simp [cpS, hv]
    rw [hb] at C1
    clear hb
    go_enter Try.func14, Try.ntmps14
    go_wp2_with (go_at_call 17; refine (C1.out _ (by simp)).mono ?_; rintro e w' ⟨rfl, h1⟩)
    go_ret2
    exact ⟨rfl, Ext.trans (by simp) h1⟩
  · have hb : cpS lift op st = 0 := by simp [cpS, hv]
    rw [hb] at C1
    clear hb
    have h10 : 0 ≤ ticks → 10000 < ticks := fun h => by
      rcases Int.lt_or_le 10000 ticks with h' | h'
      · exact h'
      · exact absurd ⟨hv, h, h'⟩ hbad
    clear hbad
    by_cases h0 : 0 ≤ ticks
    · have h1 := h10 h0
      clear h10
      go_enter Try.func14, Try.ntmps14
      go_wp2_with (go_at_call 17; refine (C1.out _ (by simp)).mono ?_; rintro e w' ⟨rfl, h1⟩)
      go_ret2
      exact ⟨rfl, Ext.trans (by simp) h1⟩
    · clear h10
      go_enter Try.func14, Try.ntmps14
      go_wp2_with (go_at_call 17; refine (C1.out _ (by simp)).mono ?_; rintro e w' ⟨rfl, h1⟩)
      go_ret2
      exact ⟨rfl, Ext.trans (by simp) h1⟩

set_option maxHeartbeats 400000 in
theorem places_good (A : Option Addr) (c : Nat) (lift : List Int) (op st : Int) (ticks : Nat) (w : World) (hA : Ints w A lift) (hn2 : lift.length ≤ 100000) (hv : vpB lift op st = true) (ht : ticks ≤ 10000) :
    Calls Try.prog 14 #[.agg #[.slice A lift.length c, .int .i64 op, .int .i64 st], .int .i64 ticks] w fun e w' => ∃ v, e = .returned (.tuple #[v, .int .i64 0]) ∧ OwnI w w' v (placesL lift op st (ticks + 1)) := by
  have hvp : vpP lift op st := by simpa [vpB] using hv
  have hn : 0 < lift.length := by have := hvp.1; omega
  have c1 := fun (w' : World) (he : Ext w w') => check_piston A c lift op st w' (hA.ext he) hn2
  have hb : cpS lift op st = 0 := by simp [cpS, hv]
  rw [hb] at c1
  have c2 := fun (x : Int) (t : Nat) (h1 : 1 ≤ t) (h2 : t ≤ 1000000) (h3 : 0 ≤ x) (h4 : x ≤ 1000000) (w' : World) (he : Ext w w') => tick_any A c lift op st x t w' (hA.ext he) hn hn2 h1 h2 h3 h4
  have C1 := Lib.hid c1
  have C2 := Lib.hid c2
  clear c1 c2 hb hv
  generalize lift.length = n at *
  go_enter Try.func14, Try.ntmps14
  go_wp2_with (first
    | (go_at_call 17; refine (C1.out _ (by simp)).mono ?_; rintro e w1 ⟨rfl, h1⟩)
    | (refine own_make (w1 := w1) int_elem rfl _ _ rfl Try.underlying22 _ (ticks + 1) rfl (by omega) (by omega) (by unfold maxLen; omega) (Ext.refl _) ?_; intro w2 hown hx))
  have hp0 : ∀ w', Ext w1 w' → w'.cell? ⟨w.heap.size, 0, none⟩ = some (.slice A n c) := fun w' he => (h1.trans he).cell (by simp)
  have hp1 : ∀ w', Ext w1 w' → w'.cell? ⟨w.heap.size, 1, none⟩ = some (.int .i64 op) := fun w' he => (h1.trans he).cell (by simp)
  have hp2 : ∀ w', Ext w1 w' → w'.cell? ⟨w.heap.size, 2, none⟩ = some (.int .i64 st) := fun w' he => (h1.trans he).cell (by simp)
  have hw1 : Ext w w1 := Ext.trans (by simp) h1
  have hown1 : Own w1 w2 3 1 (.slice (some ⟨w1.heap.size, 0, none⟩) (ticks + 1) (ticks + 1)) (ticks + 1) ((fill (placeS lift op st) (ticks + 1) 1).map vint) := by
    rw [← fill_one (placeS lift op st) _ rfl, ← fill_zero]; exact hown
  clear hown
  go_loopw [7] (fun i wr => ∃ k : Nat, 1 ≤ k ∧ k ≤ ticks + 1 ∧ i = .int .i64 k ∧ Own w1 wr 3 1 (.slice (some ⟨w1.heap.size, 0, none⟩) (ticks + 1) (ticks + 1)) (ticks + 1) ((fill (placeS lift op st) (ticks + 1) k).map vint)) (fun i _ => ticks + 1 - (intOf i).toNat)
  case atStart => exact ⟨1, by omega, by omega, rfl, hown1⟩
  case round =>
    obtain ⟨k, hk1, hk2, rfl, hown⟩ := hrel
    by_cases hlt : k ≤ ticks
    · have hex := hown.ext
      have hck : ∀ w', Ext wr w' → w'.cell? ⟨w1.heap.size, k - 1, none⟩ = some (.int .i64 (placeS lift op st (k - 1))) := fun w' he => he.cell (by
        rw [hown.cell (by simp [fill_length]; omega)]
        rw [show (List.map vint (fill (placeS lift op st) (ticks + 1) k))[k - 1]? = some (vint (getI (fill (placeS lift op st) (ticks + 1) k) (k - 1))) by simp [getI, fill_length, show k - 1 < ticks + 1 by omega]]
        rw [fill_get _ _ _ _ (by omega) (by omega)])
      have hp0 : ∀ w', Ext wr w' → w'.cell? ⟨w.heap.size, 0, none⟩ = some (.slice A n c) := fun w' he => hp0 w' (hex.trans he)
      have hp1 : ∀ w', Ext wr w' → w'.cell? ⟨w.heap.size, 1, none⟩ = some (.int .i64 op) := fun w' he => hp1 w' (hex.trans he)
      have hp2 : ∀ w', Ext wr w' → w'.cell? ⟨w.heap.size, 2, none⟩ = some (.int .i64 st) := fun w' he => hp2 w' (hex.trans he)
      have e2 : IntKind.i64.wrap ((k : Int) - 1) = ((k - 1 : Nat) : Int) := by rw [IntKind.wrap_i64]; omega
      have b1 : ((k - 1 : Nat) : Int) < ((ticks + 1 : Nat) : Int) := by omega
      have hbd := place_bd lift op st hvp.2.2.2.2.2.1 (k - 1)
      have hst := hvp.2.2.2.2.2.2
      have hs : placeS lift op st k = tickS lift op st (placeS lift op st (k - 1)) k := by
        obtain ⟨j, rfl⟩ : ∃ j, k = j + 1 := ⟨k - 1, by omega⟩
        rfl
      have Hs := Lib.hid hs
      clear hs
      go_wp2
      refine wp_region_calm 10 (fun _ _ v _ => v = .int .i64 (placeS lift op st k)) (fun _ _ _ _ _ _ h => h) (by kernel_rfl) (by kernel_rfl) ?_
      simp only [List.take_succ_cons, List.take_zero, List.drop_succ_cons, List.drop_zero]
      refine calm_quiet calm_mono_final 9 (by kernel_rfl) ?_
      simp only [List.take_succ_cons, List.take_zero, List.drop_succ_cons, List.drop_zero]
      repeat (go_big_quiet_step (fail))
      refine wpQuiet_nil ?_
      refine calm_call calm_mono_final 52 #[.agg #[.slice A n c, .int .i64 op, .int .i64 st], .int .i64 (placeS lift op st (k - 1)), .int .i64 k] rfl (fun w => ?_) (fun w he _ => ?_) ?_
      · go_simp
      · exact (C2.out _ _ hk1 (by omega) (by omega) (by omega) w (hw1.trans (hex.trans he))).mono fun e w'' ⟨he', hx⟩ => ⟨_, he', hx, by rw [Hs.out]⟩
      rintro _ _ _ rfl
      refine calm_nil fun w3 he3 _ => ?_
      have hown3 := hown.later he3
      obtain ⟨z, hz⟩ : ∃ z, w3.cell? ⟨w1.heap.size, k, none⟩ = some z := ⟨_, (hown3.cell (j := k) (by simp [fill_length]; omega)).trans (List.getElem?_eq_getElem (by simp [fill_length]; omega))⟩
      have hf := hown3.free k
      have b2 : (k : Int) < ((ticks + 1 : Nat) : Int) := by omega
      go_wp2
      go_roundw
      case rel => 
        refine ⟨k + 1, by omega, by omega, by go_num, ?_⟩
        rw [← fill_set, List.map_set]
        exact hown3.store k _
      case measure => simp [intOf]; omega
    · go_wp2
      go_ret2
      have hk : k = ticks + 1 := by omega
      subst hk
      refine ⟨_, rfl, ?_⟩
      rw [fill_all] at hown
      have hown := hown.since hw1
      simpa [OwnI, placesL] using hown
end Go.Proofs.Ytbclbcldplmppaa
