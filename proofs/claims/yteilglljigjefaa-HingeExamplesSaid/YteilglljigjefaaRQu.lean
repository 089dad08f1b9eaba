/- HingeExamples: the map of the four turns, as it reads. -/
import Derived.Test.YteilglljigjefaaRQt
import Derived.Maps.RangeWalk
namespace Go.Proofs.Yteilglljigjefaa
open Go.RowKit Go.Maps
set_option maxRecDepth 100000
/-- How an element [3]int reads. -/
def R3 (v : Value) : Option (DataW Unit × List MemPlace) :=
  match v with
  | .agg l => match l.toList with
    | [.int .i64 a, .int .i64 b, .int .i64 c] => some (.agg [.lit (.int .i64 a), .lit (.int .i64 b), .lit (.int .i64 c)], [])
    | _ => none
  | _ => none
def v3 (t : Int × Int × Int) : Value := .agg #[.int .i64 t.1, .int .i64 t.2.1, .int .i64 t.2.2]
def d3 (t : Int × Int × Int) : DataW Unit := .agg [.lit (.int .i64 t.1), .lit (.int .i64 t.2.1), .lit (.int .i64 t.2.2)]
theorem R3_mk (t : Int × Int × Int) : R3 (v3 t) = some (d3 t, []) := rfl
theorem R3_inv (v : Value) (y : DataW Unit × List MemPlace) (h : R3 v = some y) : ∃ t, v = v3 t := by
  unfold R3 at h
  split at h
  · rename_i l
    split at h
    · rename_i a b c e
      refine ⟨(a, b, c), ?_⟩
      rcases l with ⟨l⟩
      simp only at e
      subst e
      rfl
    · cases h
  · cases h
def M0 : DataW Unit := .map []
def M1 : DataW Unit := M0.put (.int .i64 0) (d3 (-1, 0, 1))
def M2 : DataW Unit := M1.put (.int .i64 3) (d3 (1, 0, 1))
def M3 : DataW Unit := M2.put (.int .i64 4) (d3 (-4, -3, 5))
def M4 : DataW Unit := M3.put (.int .i64 35) (d3 (24, 7, 25))
theorem M4_eq : M4 = .map [(.int .i64 0, d3 (-1, 0, 1)), (.int .i64 3, d3 (1, 0, 1)), (.int .i64 4, d3 (-4, -3, 5)), (.int .i64 35, d3 (24, 7, 25))] := rfl
theorem M4_at (x : Int) (zd : DataW Unit) : M4.atKey (.int .i64 x) zd = if x = 0 then d3 (-1, 0, 1) else if x = 3 then d3 (1, 0, 1) else if x = 4 then d3 (-4, -3, 5) else if x = 35 then d3 (24, 7, 25) else zd := by
  by_cases h0 : x = 0
  · subst h0; rfl
  · by_cases h1 : x = 3
    · subst h1; rfl
    · by_cases h2 : x = 4
      · subst h2; rfl
      · by_cases h3 : x = 35
        · subst h3; rfl
        · rw [if_neg h0, if_neg h1, if_neg h2, if_neg h3]
          have g0 : ¬ (0 : Int) = x := fun e => h0 e.symm
          have g1 : ¬ (3 : Int) = x := fun e => h1 e.symm
          have g2 : ¬ (4 : Int) = x := fun e => h2 e.symm
          have g3 : ¬ (35 : Int) = x := fun e => h3 e.symm
          rw [M4_eq]
          simp [DataW.atKey, Lit.sameKey, g0, g1, g2, g3]
theorem M4_in {x : Int} {t : Int × Int × Int} (h : ∀ zd, M4.atKey (.int .i64 x) zd = d3 t) : 0 ≤ x ∧ x < 36 ∧ trn x.toNat = t := by
  have key : ∀ {a b : Int × Int × Int}, d3 a = d3 b → a = b := by
    rintro ⟨a1, a2, a3⟩ ⟨b1, b2, b3⟩ e
    simp [d3] at e
    obtain ⟨rfl, rfl, rfl⟩ := e
    rfl
  have hz := h (.map [])
  rw [M4_at] at hz
  obtain ⟨t0, t3, t4, t5⟩ := lim_turns
  split at hz
  · rename_i e; subst e; rw [← key hz]; exact ⟨by decide, by decide, t0⟩
  · split at hz
    · rename_i e; subst e; rw [← key hz]; exact ⟨by decide, by decide, t3⟩
    · split at hz
      · rename_i e; subst e; rw [← key hz]; exact ⟨by decide, by decide, t4⟩
      · split at hz
        · rename_i e; subst e; rw [← key hz]; exact ⟨by decide, by decide, t5⟩
        · cases hz
end Go.Proofs.Yteilglljigjefaa
