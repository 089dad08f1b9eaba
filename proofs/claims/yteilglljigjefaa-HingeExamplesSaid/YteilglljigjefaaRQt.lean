/- HingeExamples: its numbers, and what the code answers. -/
import Derived.Test.YteilglljigjefaaR29
import Derived.Test.YteilglljigjefaaR31
import Derived.Test.YteilglljigjefaaR22
namespace Go.Proofs.Yteilglljigjefaa
open Go.RowKit
set_option maxRecDepth 100000
set_option maxHeartbeats 4000000
theorem lim_sw : swE twL (twH 0) 0 = 0 ∧ (swR twL (twH 0) 0).length = 19 ∧ (swR twL (twH 0) 0)[0]? = some 0 ∧ (swR twL (twH 0) 0)[1]? = some 1 ∧ (swR twL (twH 0) 0)[2]? = some 3 ∧ ∀ n ∈ swR twL (twH 0) 0, 0 ≤ n ∧ n < 36 ∧ (trn n.toNat).2.1 ≤ 0 := by decide +kernel
theorem lim_link : linkP [sqL] [] := by decide
theorem lim_open : clo ⟨0, 0⟩ ⟨1, 0⟩ [] pose0 = none := by decide
theorem lim_none : clo ⟨1, 0⟩ ⟨1, 0⟩ [] pose0 = some [] := by decide
def limA : Apr := ⟨true, 1, 0, 4, 1, []⟩
theorem lim_apart3 : rightB limA (pcrn twL (twH (3 : Nat)) 0) (pcrn twL (twH (3 : Nat)) 1) = true := by decide
theorem lim_apart9 : rightB limA (pcrn twL (twH (9 : Nat)) 0) (pcrn twL (twH (9 : Nat)) 1) = false := by decide
theorem lim_size : checkE [] [] = 50 := by decide
theorem lim_clock : panelE [⟨0, 0⟩, ⟨0, 4⟩, ⟨4, 4⟩, ⟨4, 0⟩] = 50 := by decide
theorem lim_turns : trn 0 = (-1, 0, 1) ∧ trn 3 = (1, 0, 1) ∧ trn 4 = (-4, -3, 5) ∧ trn 35 = (24, 7, 25) := by decide

theorem lim_swC (A B : Option Addr) (w : World) (hL : Lk w A twL B (twH 0)) :
    Calls Try.prog 37 #[.agg #[.slice A 2 2, .slice B 1 1], .int .i64 0] w fun e w' => ∃ X x, e = .returned (.tuple #[.slice X 19 x, .int .i64 0]) ∧ Ints w' X (swR twL (twH 0) 0) ∧ Ext w w' := by
  refine (swings_any A 2 twL B 1 (twH 0) 0 w hL).mono fun e w' ⟨v, he, ho⟩ => ?_
  obtain ⟨h1, h2, _⟩ := lim_sw
  rw [h1] at he
  obtain ⟨X, x, rfl⟩ := ho.form
  rw [h2] at he
  exact ⟨X, x, he, ho.ints, ho.ext⟩
theorem lim_openC (A : Option Addr) (w : World) (hL : Lk w A [sqL] none []) :
    Calls Try.prog 19 #[.agg #[.slice A 1 1, .slice none 0 0], .agg #[.int .i64 0, .int .i64 0], .agg #[.int .i64 1, .int .i64 0]] w fun e w' => ∃ v, e = .returned (.tuple #[v, .int .i64 52]) ∧ Ext w w' := by
  have ha : askE [sqL] [] ⟨0, 0⟩ ⟨1, 0⟩ = 0 := ask_good lim_link (by decide)
  refine (close_any A 1 [sqL] none 0 [] ⟨0, 0⟩ ⟨1, 0⟩ w hL).mono fun e w' ⟨v, he, ho⟩ => ?_
  have e1 : cloE [sqL] [] ⟨0, 0⟩ ⟨1, 0⟩ = 52 := by rw [cloE, if_pos ha, lim_open]; rfl
  rw [e1] at he
  exact ⟨v, he, ho.ext⟩
theorem lim_noneC (A : Option Addr) (w : World) (hL : Lk w A [sqL] none []) :
    Calls Try.prog 19 #[.agg #[.slice A 1 1, .slice none 0 0], .agg #[.int .i64 1, .int .i64 0], .agg #[.int .i64 1, .int .i64 0]] w fun e w' => ∃ X x, e = .returned (.tuple #[.slice X 0 x, .int .i64 0]) ∧ Ext w w' := by
  have ha : askE [sqL] [] ⟨1, 0⟩ ⟨1, 0⟩ = 0 := ask_good lim_link (by decide)
  refine (close_any A 1 [sqL] none 0 [] ⟨1, 0⟩ ⟨1, 0⟩ w hL).mono fun e w' ⟨v, he, ho⟩ => ?_
  have e1 : cloE [sqL] [] ⟨1, 0⟩ ⟨1, 0⟩ = 0 := by rw [cloE, if_pos ha, lim_none]; rfl
  have e2 : cloL [sqL] [] ⟨1, 0⟩ ⟨1, 0⟩ = [] := by rw [cloL, if_pos ha, lim_none]; rfl
  rw [e1] at he
  rw [e2] at ho
  obtain ⟨X, x, rfl⟩ := ho.form
  exact ⟨X, x, he, ho.ext⟩
theorem lim_clashC (A B : Option Addr) (w : World) (hL : Lk w A twL B (twH (3 : Nat))) :
    Calls Try.prog 42 #[.agg #[.slice A 2 2, .slice B 1 1], .int .i64 1, .int .i64 1] w fun e w' => e = .returned (.tuple #[aprZ.val none 0, .int .i64 2]) ∧ Ext w w' := by
  have h2 : ¬ twoP twL 1 1 := by decide
  have h3 : twoE twL (twH (3 : Nat)) 1 1 = 2 := two_arg (twL_ok (by decide)) h2
  have h := clash_bad A 2 twL B 1 (twH (3 : Nat)) 1 1 w hL (.inl h3) (fun h => h2 h.2)
  rw [h3] at h
  exact h
theorem lim_apC {n : Nat} (hn : n < 36) {b : Bool} (hb : rightB limA (pcrn twL (twH n) 0) (pcrn twL (twH n) 1) = b) (A B : Option Addr) (w : World) (hL : Lk w A twL B (twH n)) :
    Calls Try.prog 44 #[.agg #[.slice A 2 2, .slice B 1 1], .int .i64 0, .int .i64 1, .agg #[.bool true, .int .i64 1, .int .i64 0, .int .i64 4, .int .i64 1, .slice none 0 0]] w fun e w' => e = .returned (.int .i64 (if b = true then 0 else 31)) ∧ Ext w w' := by
  have hr : AprIn w limA none 0 := by
    constructor
    all_goals first | decide | (intro j hj; exact absurd hj (by simp [limA])) | skip
  have h0 : twoE twL (twH n) ((0 : Nat) : Int) ((1 : Nat) : Int) = 0 := two_good (twL_ok hn) (by decide)
  have h := checkapart_any A 2 twL B 1 (twH n) (0 : Nat) (1 : Nat) limA none 0 w hL hr
  rw [apartE_nat h0, hb] at h
  exact h
theorem lim_checkC (w : World) : Calls Try.prog 30 #[.agg #[.slice none 0 0, .slice none 0 0]] w fun e w' => e = .returned (.int .i64 50) ∧ Ext w w' := by
  have h := check_any none 0 [] none 0 [] w (fun j hj => absurd hj (by simp)) (fun j hj => absurd hj (by simp)) (by simp) (fun k hk => absurd hk (by simp))
  rw [lim_size] at h
  exact h
theorem lim_panelC (A : Option Addr) (c : Nat) (w : World) (hA : SRow w A [⟨0, 0⟩, ⟨0, 4⟩, ⟨4, 4⟩, ⟨4, 0⟩]) : Calls Try.prog 25 #[.slice A 4 c] w fun e w' => e = .returned (.int .i64 50) ∧ Ext w w' := by
  have h := check_panel A c [⟨0, 0⟩, ⟨0, 4⟩, ⟨4, 4⟩, ⟨4, 0⟩] w hA (by decide)
  rw [lim_clock] at h
  exact h
end Go.Proofs.Yteilglljigjefaa
