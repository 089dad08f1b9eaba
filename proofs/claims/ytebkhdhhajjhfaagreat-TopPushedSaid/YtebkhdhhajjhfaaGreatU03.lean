/- Pistons, fourth text: the reference's places (appends), two lists compared. -/
import Derived.Test.YtebkhdhhajjhfaaGreatU02
import Derived.Test.YtebkhdhhajjhfaaGreatU01
namespace Go.Proofs.YtebkhdhhajjhfaaGreat.Gr
open Go.RowKit

theorem placesL_length (lift : List Int) (op st : Int) (n : Nat) : (placesL lift op st n).length = n := by simp [placesL]
theorem placesL_get (lift : List Int) (op st : Int) (n i : Nat) (h : i < n) : getI (placesL lift op st n) i = placeS lift op st i := by simp [getI, placesL, h]

end Go.Proofs.YtebkhdhhajjhfaaGreat.Gr

/- Lists of numbers compared and copied; the reference's Places. -/
namespace Go.Proofs.YtebkhdhhajjhfaaGreat.Gr
open Go.RowKit

end Go.Proofs.YtebkhdhhajjhfaaGreat.Gr

/- Trains, first text: meshes; which are valid, by the code. -/
namespace Go.Proofs.YtebkhdhhajjhfaaGreat.Gr
open Go.RowKit

def memB (xs : List Int) (s : Int) : Bool := decide (s ∈ xs)
def HasAt (xs : List Int) (s : Int) (w : World) (e : Ending) (w' : World) : Prop := ∃ r : Int, e = .returned (.int .i64 r) ∧ (0 ≤ r ↔ s ∈ xs) ∧ w = w'

set_option maxHeartbeats 400000 in
theorem index_any (A : Option Addr) (c : Nat) (xs : List Int) (s : Int) (w : World) (hA : Ints w A xs) (hx : xs.length ≤ 1000000) :
    Calls Tryz.prog 126 #[.slice A xs.length c, .int .i64 s] w (HasAt xs s w) := by
  have ca := fun (k : Nat) (hk : k < xs.length) => hA.some_ (by omega)
  have hin : ∀ k, k < xs.length → getI xs k = s → s ∈ xs := fun k hk h => by rw [← h, getI_eq hk]; exact List.getElem_mem hk
  have hout : (∀ k, k < xs.length → getI xs k ≠ s) → ¬ s ∈ xs := fun h hm => by
    obtain ⟨k, hk, e⟩ := List.getElem_of_mem hm
    exact h k hk (by rw [getI_eq hk]; exact e)
  have Ca := Lib.hid ca
  have Hin := Lib.hid hin
  have Hout := Lib.hid hout
  clear ca hin hout hA
  generalize xs.length = n at *
  go_enter Tryz.func126, Tryz.ntmps126
  go_wp2
  go_loop [8, 5] (fun i _ => ∃ k : Nat, k ≤ n ∧ i = .int .i64 k ∧ ∀ j, j < k → getI xs j ≠ s) (fun i _ => n - (intOf i).toNat)
  case atStart => exact ⟨0, by omega, rfl, fun j hj => by omega⟩
  case round =>
    obtain ⟨k, hk, rfl, hall⟩ := hrel
    have Hall := Lib.hid hall
    clear hall
    by_cases hlt : k < n
    · obtain ⟨ad, rfl, hc⟩ := Ca.out k hlt
      have hck := hc k hlt w (Ext.refl w)
      clear hc
      by_cases he : getI xs k = s
      · have hb : (s == getI xs k) = true := by rw [he]; exact beq_self_eq_true s
        have Hm := Lib.hid (Hin.out k hlt he)
        have hne : (getI xs k == s) = true := by rw [he]; exact beq_self_eq_true s
        clear he
        go_wp2
        go_ret
        exact ⟨k, rfl, ⟨fun _ => Hm.out, fun _ => by omega⟩, rfl⟩
      · have hb : (s == getI xs k) = false := beq_eq_false_iff_ne.2 (fun e => he e.symm)
        have He := Lib.hid he
        clear he
        go_wp2
        go_round
        case rel => exact ⟨k + 1, by omega, by go_num, fun j hj => by
          by_cases e : j = k
          · subst e; exact He.out
          · exact Hall.out j (by omega)⟩
        case measure => simp [intOf]; omega
    · go_wp2
      go_ret
      exact ⟨-1, rfl, ⟨fun h => by omega, fun h => absurd h (Hout.out fun j hj => Hall.out j (by omega))⟩, rfl⟩

theorem contains_any (A : Option Addr) (c : Nat) (xs : List Int) (s : Int) (w : World) (hA : Ints w A xs) (hx : xs.length ≤ 1000000) :
    Calls Tryz.prog 86 #[.slice A xs.length c, .int .i64 s] w fun e w' => e = .returned (.bool (memB xs s)) ∧ w = w' := by
  have ci := index_any A c xs s w hA hx
  have Ci := Lib.hid ci
  clear ci hA
  generalize xs.length = n at *
  go_enter Tryz.func86, Tryz.ntmps86
  go_wp2_with (go_at_call 126; refine Ci.out.mono ?_; rintro e w' ⟨r, rfl, hr, rfl⟩)
  go_ret
  exact ⟨ret_b (by simp [memB]), rfl⟩
end Go.Proofs.YtebkhdhhajjhfaaGreat.Gr

/- Trains: a mesh is valid, by the code. -/
namespace Go.Proofs.YtebkhdhhajjhfaaGreat.Gr
open Go.RowKit

end Go.Proofs.YtebkhdhhajjhfaaGreat.Gr

/- Trains: the reference's plain mesh. -/
namespace Go.Proofs.YtebkhdhhajjhfaaGreat.Gr
open Go.RowKit

end Go.Proofs.YtebkhdhhajjhfaaGreat.Gr
