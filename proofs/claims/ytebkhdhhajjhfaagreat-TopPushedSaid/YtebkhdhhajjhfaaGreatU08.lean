/- The angles: by the reference, without a search. -/
import Derived.Test.YtebkhdhhajjhfaaGreatU07
namespace Go.Proofs.YtebkhdhhajjhfaaGreat
open Go.RowKit
end Go.Proofs.YtebkhdhhajjhfaaGreat

/- A pose in lowest terms: by the reference. -/
namespace Go.Proofs.YtebkhdhhajjhfaaGreat
open Go.RowKit
end Go.Proofs.YtebkhdhhajjhfaaGreat

/- Angles and pairs in memory. -/
namespace Go.Proofs.YtebkhdhhajjhfaaGreat
open Go.RowKit
end Go.Proofs.YtebkhdhhajjhfaaGreat

/- Comparing lists of numbers; sorting angles that are sorted. -/
namespace Go.Proofs.YtebkhdhhajjhfaaGreat
open Go.RowKit

theorem nan_any (a : Int) (w : World) : Calls Tryz.prog 157 #[.int .i64 a] w fun e w' => e = .returned (.bool false) ∧ w = w' := by
  go_enter Tryz.func157, Tryz.ntmps157
  go_wp2
  go_ret
  exact ⟨by simp, rfl⟩
def cmpI (a b : Int) : Int := if a < b then -1 else if b < a then 1 else 0
theorem cmp_any (a b : Int) (w : World) : Calls Tryz.prog 109 #[.int .i64 a, .int .i64 b] w fun e w' => e = .returned (.int .i64 (cmpI a b)) ∧ w = w' := by
  have h1 : a < b → (-1 : Int) = cmpI a b := fun h => by unfold cmpI; rw [if_pos h]
  have h2 : b < a → (1 : Int) = cmpI a b := fun h => by unfold cmpI; rw [if_neg (by omega), if_pos h]
  have h3 : a = b → (0 : Int) = cmpI a b := fun h => by unfold cmpI; rw [if_neg (by omega), if_neg (by omega)]
  have H1 := Lib.hid h1
  have H2 := Lib.hid h2
  have H3 := Lib.hid h3
  clear h1 h2 h3
  generalize cmpI a b = c at *
  go_enter Tryz.func109, Tryz.ntmps109
  go_wp2_with (go_at_call 157; refine (nan_any _ _).mono ?_; rintro e w' ⟨rfl, rfl⟩)
  all_goals go_ret
  all_goals first | exact ⟨ret_i (H1.out (by omega)), rfl⟩ | exact ⟨ret_i (H2.out (by omega)), rfl⟩ | exact ⟨ret_i (H3.out (by omega)), rfl⟩
/-- The first place where two lists part. -/
def cmpL : List Int → List Int → Int
  | x :: xs, y :: ys => if cmpI x y = 0 then cmpL xs ys else cmpI x y
  | [], [] => 0
  | [], _ :: _ => -1
  | _ :: _, [] => 1
theorem cmpL_at : ∀ (xs ys : List Int) (k : Nat), xs.length = ys.length → k < xs.length → (∀ j, j < k → cmpI (getI xs j) (getI ys j) = 0) → ¬ cmpI (getI xs k) (getI ys k) = 0 → cmpI (getI xs k) (getI ys k) = cmpL xs ys
  | [], _, _, _, h, _, _ => absurd h (by simp)
  | _ :: _, [], _, h, _, _, _ => absurd h (by simp)
  | x :: xs, y :: ys, 0, _, _, _, hn => by
    have hn : ¬ cmpI x y = 0 := hn
    show cmpI x y = cmpL (x :: xs) (y :: ys)
    unfold cmpL
    rw [if_neg hn]
  | x :: xs, y :: ys, k + 1, hl, hk, hj, hn => by
    have h0 : cmpI x y = 0 := hj 0 (by omega)
    show _ = cmpL (x :: xs) (y :: ys)
    unfold cmpL
    rw [if_pos h0]
    exact cmpL_at xs ys k (by simpa using hl) (by simpa using hk) (fun j h => hj (j + 1) (by omega)) hn
theorem cmpL_same : ∀ (xs ys : List Int), xs.length = ys.length → (∀ j, j < xs.length → cmpI (getI xs j) (getI ys j) = 0) → 0 = cmpL xs ys
  | [], [], _, _ => rfl
  | [], _ :: _, h, _ => absurd h (by simp)
  | _ :: _, [], h, _ => absurd h (by simp)
  | x :: xs, y :: ys, hl, hj => by
    have h0 : cmpI x y = 0 := hj 0 (by simp)
    unfold cmpL
    rw [if_pos h0]
    exact cmpL_same xs ys (by simpa using hl) (fun j h => hj (j + 1) (by simpa using h))

set_option maxHeartbeats 800000 in
theorem compare_any (A B : Option Addr) (c d : Nat) (xs ys : List Int) (w : World) (hA : Ints w A xs) (hB : Ints w B ys) (hl : xs.length = ys.length) (hn : xs.length ≤ 1000) :
    Calls Tryz.prog 76 #[.slice A xs.length c, .slice B xs.length d] w fun e w' => e = .returned (.int .i64 (cmpL xs ys)) ∧ w = w' := by
  have ha := fun k (hk : k < xs.length) => hA.some_ (by omega : 0 < xs.length)
  have hb := fun k (hk : k < xs.length) => hB.some_ (by omega : 0 < ys.length)
  have hat := fun k (hk : k < xs.length) => cmpL_at xs ys k hl hk
  have hsa := cmpL_same xs ys hl
  rw [← hl] at hb
  have Ha := Lib.hid ha
  have Hb := Lib.hid hb
  have Hat := Lib.hid hat
  have Hsa := Lib.hid hsa
  clear ha hb hat hsa hA hB hl
  generalize cmpL xs ys = R at *
  generalize xs.length = n at *
  go_enter Tryz.func76, Tryz.ntmps76
  go_wp2
  go_loop [11] (fun i => ∃ k : Nat, k ≤ n ∧ i = .int .i64 k ∧ ∀ j, j < k → cmpI (getI xs j) (getI ys j) = 0) (fun i => n - (intOf i).toNat)
  case atStart => exact ⟨0, by omega, rfl, fun j h => absurd h (by omega)⟩
  case round =>
    obtain ⟨k, hk, rfl, hj⟩ := hrel
    by_cases hlt : k < n
    · obtain ⟨a1, rfl, g1⟩ := Ha.out k hlt
      obtain ⟨a2, rfl, g2⟩ := Hb.out k hlt
      have c1 := g1 k hlt w (Ext.refl w)
      have c2 := g2 k hlt w (Ext.refl w)
      clear g1 g2
      have hat := Hat.out k hlt hj
      have hnx : cmpI (getI xs k) (getI ys k) = 0 → ∀ j, j < k + 1 → cmpI (getI xs j) (getI ys j) = 0 := fun h j hj2 => by
        by_cases e : j = k
        · subst e; exact h
        · exact hj j (by omega)
      have Hat' := Lib.hid hat
      have Hnx := Lib.hid hnx
      clear hat hnx hj Hat Hsa Ha Hb
      generalize getI xs k = x at *
      generalize getI ys k = y at *
      go_wp2_with (go_at_call 109; refine (cmp_any _ _ _).mono ?_; rintro e w' ⟨rfl, rfl⟩)
      · go_ret
        have hne : ¬ cmpI x y = 0 := by simpa using ‹(cmpI x y != 0) = true›
        exact ⟨ret_i (Hat'.out hne), rfl⟩
      · go_round
        have he : cmpI x y = 0 := by simpa using ‹(cmpI x y != 0) = false›
        case rel => exact ⟨k + 1, by omega, by go_num, Hnx.out he⟩
        case measure => simp [intOf]; omega
    · obtain rfl : n = k := by omega
      go_wp2
      go_ret
      exact ⟨ret_i (Hsa.out hj), rfl⟩
end Go.Proofs.YtebkhdhhajjhfaaGreat

/- Sorting angles that are sorted. -/
namespace Go.Proofs.YtebkhdhhajjhfaaGreat
open Go.RowKit
end Go.Proofs.YtebkhdhhajjhfaaGreat
