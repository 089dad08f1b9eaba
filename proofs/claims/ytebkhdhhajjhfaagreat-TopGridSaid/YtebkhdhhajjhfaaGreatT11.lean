/- The order of shafts, by the code. -/
import Derived.Test.YtebkhdhhajjhfaaGreatT04
import Derived.Lib.SliceRun
import Derived.Test.YtebkhdhhajjhfaaGreatT03
import Derived.Deep.Upon
import Derived.Test.YtebkhdhhajjhfaaGreatT05
namespace Go.Proofs.YtebkhdhhajjhfaaGreat.Gr
open Go.RowKit

set_option maxRecDepth 100000 in
set_option maxHeartbeats 4000000 in
theorem compact_two (gl : Nat) (x y : Int) (w : World) (h0 : w.cell? ⟨gl, 0, none⟩ = some (vint x)) (h1 : w.cell? ⟨gl, 1, none⟩ = some (vint y)) (hf : w.frozen? ⟨gl, 1, none⟩ = false) :
    Calls Tryz.prog 87 #[.slice (some ⟨gl, 0, none⟩) 2 2] w fun e w' =>
      (x ≠ y ∧ e = .returned (.slice (some ⟨gl, 0, none⟩) 2 2) ∧ Ext w w') ∨ (x = y ∧ e = .returned (.slice (some ⟨gl, 0, none⟩) 1 2) ∧ ∃ w1, Ext w w1 ∧ w' = w1.setCell ⟨gl, 1, none⟩ (vint 0)) := by
  go_enter Tryz.func87, Tryz.ntmps87
  go_wp2
  go_loopw [3] (fun i wr => Ext w wr ∧ (i = .int .i64 1 ∨ (i = .int .i64 2 ∧ x ≠ y))) (fun i _ => 3 - (intOf i).toNat)
  case atStart => exact ⟨Ext.refl _, .inl rfl⟩
  case round =>
    obtain ⟨hex, hrel⟩ := hrel
    have h0 := hex.cell h0
    have h1 := hex.cell h1
    have hf : wr.frozen? ⟨gl, 1, none⟩ = false := (hex.frozen (World.block_lt_of_cell? _ _ (show w.cell? ⟨gl, 1, none⟩ = some (vint y) by assumption))).trans hf
    rcases hrel with rfl | ⟨rfl, hne⟩
    · by_cases e : x = y
      · have hb : (y == x) = true := by simp [e]
        have E := Lib.hid e
        clear e
        have hcl : ∀ (nq : Nat) ty, (Builtin.clear_ #[26] ty #[.slice (some ⟨gl, 1, none⟩) 1 1]).run Tryz.prog (wr.drewN nq) = .ok (.tuple #[]) ((wr.drewN nq).setCell ⟨gl, 1, none⟩ (.int .i64 0)) := fun nq ty => by
          have := Go.Lib.run_clear_slice (P := Tryz.prog) (wr.drewN nq) 26 3 ty (.int .i64 0) Tryz.underlying26 Tryz.zeroValue3 rfl rfl gl 1 1 1 (by omega) (fun j hj => by
            obtain rfl : j = 0 := by omega
            have : (wr.drewN nq).cell? ⟨gl, 1, none⟩ = some (vint y) := h1
            simp [this]) (fun j hj => by
            obtain rfl : j = 0 := by omega
            exact hf)
          simpa [World.setCells] using this
        go_wp2
        go_quiet (fail)
        go_wp2
        go_loop [5, 3] (fun i k => i = .int .i64 1 ∧ k = .int .i64 1) (fun _ _ => 0)
        case atStart => exact ⟨rfl, rfl⟩
        case round =>
          obtain ⟨rfl, rfl⟩ := hrel
          go_wp2
          go_ret
          exact .inr ⟨E.out, rfl, _, hex.trans (by simp), rfl⟩
      · have hb : (y == x) = false := by simp; exact fun e' => e e'.symm
        have E := Lib.hid e
        clear e
        go_wp2
        go_quiet (fail)
        go_wp2
        go_roundw
        case rel => exact ⟨hex.trans (by simp), .inr ⟨rfl, E.out⟩⟩
        case measure => simp [intOf]
    · go_wp2
      go_ret
      exact .inl ⟨hne, rfl, hex⟩
end Go.Proofs.YtebkhdhhajjhfaaGreat.Gr

/- The order of shafts, by the code. -/
namespace Go.Proofs.YtebkhdhhajjhfaaGreat.Gr
open Go.RowKit

def ordP (xs : List Int) : Nat → List Int
  | 0 => []
  | k + 1 => ordP xs k ++ (if memB xs k then [] else [(k : Int)])
theorem ordP_skip {xs : List Int} {k : Nat} (h : memB xs k = true) : ordP xs (k + 1) = ordP xs k := by simp [ordP, h]
theorem ordP_take {xs : List Int} {k : Nat} (h : memB xs k = false) : ordP xs (k + 1) = ordP xs k ++ [(k : Int)] := by simp [ordP, h]
theorem ordP_le (xs : List Int) : ∀ k, (ordP xs k).length ≤ k
  | 0 => by simp [ordP]
  | k + 1 => by
    have := ordP_le xs k
    unfold ordP
    split <;> simp <;> omega
/-- The order: those that are not named, then those that are. -/
def ordS (S : Nat) (xs : List Int) : List Int := ordP xs S ++ (match xs with
  | [] => []
  | [x] => [x]
  | [x, y] => if x = y then [x] else [x, y]
  | l => l)
theorem _root_.Go.Proofs.YtebkhdhhajjhfaaGreat.Own.cap {w1 w : World} {e : TypeId} {size : Nat} {A : Option Addr} {n m c : Nat} {xs : List Value} (h : Own w1 w e size (.slice A m c) n xs) : n ≤ c := by
  rcases h.2.2 with ⟨hv, hn⟩ | ⟨g, cap, cur, hv, _, _, hle, _⟩
  · injection hv with _ _ h3; omega
  · injection hv with _ _ h3; omega
theorem he_ {w w' : World} {p : Addr} {v : Value} (h : Ext w w') (hc : w.cell? p = some v) : w'.cell? p = some v := h.cell hc
theorem ints_one {w : World} {g : Nat} {x : Int} (h0 : w.cell? ⟨g, 0, none⟩ = some (vint x)) : Ints w (some ⟨g, 0, none⟩) [x] := fun k hk => by
  obtain rfl : k = 0 := by simpa using hk
  exact ⟨_, rfl, by rw [add_zero_, h0]; rfl⟩
theorem ints_two {w : World} {g : Nat} {x y : Int} (h0 : w.cell? ⟨g, 0, none⟩ = some (vint x)) (h1 : w.cell? ⟨g, 1, none⟩ = some (vint y)) : Ints w (some ⟨g, 0, none⟩) [x, y] := fun k hk => by
  rcases (by simp at hk; omega : k = 0 ∨ k = 1) with rfl | rfl
  · exact ⟨_, rfl, by rw [add_zero_, h0]; rfl⟩
  · exact ⟨_, rfl, by rw [add_lit _ _ (by omega), h1]; rfl⟩

end Go.Proofs.YtebkhdhhajjhfaaGreat.Gr

/- Three primes, Fermat's little theorem for them, and the power that inverts. Plain Lean. -/
namespace Go.Proofs.YtebkhdhhajjhfaaGreat.Gr

section
variable {p : Nat}
/-- A list without doubles, as long as one that holds it, is a permutation of it. -/
theorem perm_of_subset : ∀ {l m : List Nat}, l.Nodup → (∀ x ∈ l, x ∈ m) → m.length ≤ l.length → l.Perm m
  | [], m, _, _, h => by
    have : m = [] := List.eq_nil_of_length_eq_zero (by simpa using h)
    subst this; exact List.Perm.nil
  | x :: l, m, hn, hs, h => by
    obtain ⟨m1, m2, rfl⟩ := List.append_of_mem (hs x (by simp))
    rw [List.nodup_cons] at hn
    have := perm_of_subset (l := l) (m := m1 ++ m2) hn.2 (fun y hy => by
      have h1 := hs y (by simp [hy])
      have hne : y ≠ x := fun e => hn.1 (e ▸ hy)
      simp only [List.mem_append, List.mem_cons] at h1 ⊢
      rcases h1 with h1 | h1 | h1
      · exact .inl h1
      · exact absurd h1 hne
      · exact .inr h1) (by simp at h ⊢; omega)
    exact (List.Perm.cons x this).trans List.perm_middle.symm

end
end Go.Proofs.YtebkhdhhajjhfaaGreat.Gr
