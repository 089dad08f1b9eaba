/- Pistons, fourth text: the reference's places (appends), two lists compared. -/
import Derived.Test.YtbclbcldplmppaaGr
namespace Go.Proofs.Ytbclbcldplmppaa
open Go.RowKit

theorem placesL_succ (lift : List Int) (op st : Int) (n : Nat) : placesL lift op st (n + 1) = placesL lift op st n ++ [placeS lift op st n] := by simp [placesL, List.range_succ]
theorem placesL_length (lift : List Int) (op st : Int) (n : Nat) : (placesL lift op st n).length = n := by simp [placesL]
theorem placesL_get (lift : List Int) (op st : Int) (n i : Nat) (h : i < n) : getI (placesL lift op st n) i = placeS lift op st i := by simp [getI, placesL, h]

theorem moved_step {lift : List Int} {op st : Int} {w1 w' : World} {v : Value} {x : Int} {k : Nat} (h : Own w1 w' 3 1 v (k + 1) ((placesL lift op st k).map vint ++ (#[vint x] : Array Value).toList)) (hx : x = placeS lift op st k) :
    Own w1 w' 3 1 v (k + 1) ((placesL lift op st (k + 1)).map vint) := by
  rw [placesL_succ, List.map_append]
  subst hx
  exact h

set_option maxHeartbeats 800000 in
theorem moved_any (A : Option Addr) (c : Nat) (lift : List Int) (op st : Int) (ticks : Nat) (w : World) (hA : Ints w A lift) (hn2 : lift.length ≤ 100000) (hv : vpB lift op st = true) (ht : ticks ≤ 200000) :
    Calls Try.prog 55 #[.agg #[.slice A lift.length c, .int .i64 op, .int .i64 st], .int .i64 ticks] w fun e w' => ∃ v, e = .returned v ∧ OwnI w w' v (placesL lift op st (ticks + 1)) := by
  have hvp : vpP lift op st := by simpa [vpB] using hv
  have hn : 0 < lift.length := by have := hvp.1; omega
  have hst : st ≤ 20 := hvp.2.2.2.2.2.2
  have hst1 : 1 ≤ st := hvp.2.2.2.2.2.1
  obtain ⟨ad, rfl, hc⟩ := hA.some_ hn
  have htk : ∀ x t, tickS lift op st x t = if op ≤ getI lift ((t - 1) % lift.length) then min (x + 1) st else max (x - 1) 0 := fun _ _ => rfl
  have Htk := Lib.hid htk
  have hpl : ∀ t, 1 ≤ t → placeS lift op st t = tickS lift op st (placeS lift op st (t - 1)) t := fun t h => by
    obtain ⟨j, rfl⟩ : ∃ j, t = j + 1 := ⟨t - 1, by omega⟩
    rfl
  have Hpl := Lib.hid hpl
  have hbd := place_bd lift op st hst1
  have Hbd := Lib.hid hbd
  clear hvp hA hv htk hpl hbd
  obtain ⟨lw, hlw⟩ : ∃ lw, lw = lift.length := ⟨_, rfl⟩
  rw [← hlw] at Htk hc hn2 hn ⊢
  have Hlw := Lib.hid hlw
  clear hlw
  go_enter Try.func55, Try.ntmps55
  go_wp2
  have hw1 : Ext w (w.alloc (.cells #[.slice (some ad) lw c, .int .i64 op, .int .i64 st] 24)) := by simp
  have hp0 : ∀ w', Ext (w.alloc (.cells #[.slice (some ad) lw c, .int .i64 op, .int .i64 st] 24)) w' → w'.cell? ⟨w.heap.size, 0, none⟩ = some (.slice (some ad) lw c) := fun w' he => he.cell (by simp)
  have hp1 : ∀ w', Ext (w.alloc (.cells #[.slice (some ad) lw c, .int .i64 op, .int .i64 st] 24)) w' → w'.cell? ⟨w.heap.size, 1, none⟩ = some (.int .i64 op) := fun w' he => he.cell (by simp)
  have hp2 : ∀ w', Ext (w.alloc (.cells #[.slice (some ad) lw c, .int .i64 op, .int .i64 st] 24)) w' → w'.cell? ⟨w.heap.size, 2, none⟩ = some (.int .i64 st) := fun w' he => he.cell (by simp)
  have hsz : (w.alloc (.cells #[.slice (some ad) lw c, .int .i64 op, .int .i64 st] 24)).heap.size = w.heap.size + 1 := by simp
  generalize w.alloc (.cells #[.slice (some ad) lw c, .int .i64 op, .int .i64 st] 24) = w1 at *
  have hown0 : Own w1 (w1.alloc (.cells #[.int .i64 0] 3)) 3 1 (.slice (some ⟨w.heap.size + 1, 0, none⟩) 1 1) 1 ((placesL lift op st 1).map vint) := by
    rw [← hsz]; exact Own.lit (Ext.refl _) #[.int .i64 0] 1 (by unfold maxLen; omega) rfl
  clear hsz
  go_loopw [5, 6] (fun v i wr => ∃ k : Nat, 1 ≤ k ∧ k ≤ ticks + 1 ∧ i = .int .i64 k ∧ Own w1 wr 3 1 v k ((placesL lift op st k).map vint)) (fun _ i _ => ticks + 1 - (intOf i).toNat)
  case atStart => exact ⟨1, by omega, by omega, rfl, hown0⟩
  case round =>
    obtain ⟨k, hk1, hk2, rfl, hown⟩ := hrel
    obtain ⟨g, cp, rfl, hge, hlt⟩ := hown.at_ (by omega)
    by_cases hle : k ≤ ticks
    · have hex := hown.ext
      have hgt := hown.cell (j := k - 1) (by simp [placesL_length]; omega)
      rw [show (List.map vint (placesL lift op st k))[k - 1]? = some (vint (getI (placesL lift op st k) (k - 1))) by simp [getI, placesL_length, show k - 1 < k by omega], placesL_get _ _ _ _ _ (by omega)] at hgt
      have hj := Nat.mod_lt (k - 1) hn
      have hcj := fun w' (he : Ext wr w') => hc ((k - 1) % lw) hj w' (hw1.trans (hex.trans he))
      have q0 : ∀ w', Ext wr w' → w'.cell? ⟨w.heap.size, 0, none⟩ = some (.slice (some ad) lw c) := fun w' he => hp0 w' (hex.trans he)
      have q1 : ∀ w', Ext wr w' → w'.cell? ⟨w.heap.size, 1, none⟩ = some (.int .i64 op) := fun w' he => hp1 w' (hex.trans he)
      have q2 : ∀ w', Ext wr w' → w'.cell? ⟨w.heap.size, 2, none⟩ = some (.int .i64 st) := fun w' he => hp2 w' (hex.trans he)
      have hb := Hbd.out (k - 1)
      have hfin : ∀ y, (if op ≤ getI lift ((k - 1) % lw) then min (placeS lift op st (k - 1) + 1) st else max (placeS lift op st (k - 1) - 1) 0) = y → y = placeS lift op st k := fun y h => by rw [Hpl.out k hk1, Htk.out]; exact h.symm
      have Hfin := Lib.hid hfin
      clear hfin
      have e1 : IntKind.i64.wrap ((k : Int) - 1) = ((k - 1 : Nat) : Int) := by rw [IntKind.wrap_i64]; omega
      have e2 : (((k - 1 : Nat) : Int)).tmod (lw : Int) = (((k - 1) % lw : Nat) : Int) := by
        rw [Int.tmod_eq_emod_of_nonneg (by omega)]; exact (Int.natCast_emod _ _).symm
      have e3 : ((lw : Int) = 0) = False := by simp; omega
      have b2 : (((k - 1) % lw : Nat) : Int) < lw := by omega
      have b3 : ((k - 1 : Nat) : Int) < (k : Int) := by omega
      generalize (k - 1) % lw = j at *
      generalize placeS lift op st (k - 1) = x at *
      generalize getI lift j = y at *
      have e4 : IntKind.i64.wrap (x + 1) = x + 1 := by rw [IntKind.wrap_i64]; omega
      have e5 : IntKind.i64.wrap (x - 1) = x - 1 := by rw [IntKind.wrap_i64]; omega
      go_wp2
      go_quiet (fail)
      go_wp2_with (at_builtin; refine own_append_int (w := wr.drewN nq) rfl _ _ rfl (.slice (some ⟨g, 0, none⟩) k cp) k _ rfl (hown.later (by simp)) _ rfl (by omega) ?_; intro v' w2 hown2)
      all_goals
        go_roundw
        case rel => exact ⟨k + 1, by omega, by omega, by go_num, moved_step hown2 (Hfin.out _ (by split <;> omega))⟩
        case measure => simp [intOf]; omega
    · go_wp2
      go_ret
      have hk : k = ticks + 1 := by omega
      subst hk
      exact ⟨_, rfl, by simpa [OwnI, placesL] using hown.since hw1⟩
end Go.Proofs.Ytbclbcldplmppaa
