/- Pistons, ninth text: the lists that the code's Cycle goes through. No walk. -/
import Derived.Test.YtbclbcldplmppaaGx
namespace Go.Proofs.Ytbclbcldplmppaa

def pat (ps : List Pis) (j t : Nat) : Int := match ps[j]? with | some p => p.at t | none => 0
theorem pat_eq {ps : List Pis} {j : Nat} (h : j < ps.length) (t : Nat) : pat ps j t = ps[j].at t := by simp [pat, h]
/-- The places when i pistons have gone through a period from T on, and the next one k ticks of it. -/
def nx (ps : List Pis) (n T i k : Nat) : List Int := (List.range ps.length).map fun j => if j < i then pat ps j (T + n) else if j = i then pat ps j (T + k) else pat ps j T
theorem nx_length (ps : List Pis) (n T i k : Nat) : (nx ps n T i k).length = ps.length := by simp [nx]
theorem nx_get (ps : List Pis) (n T i k : Nat) (h : i < ps.length) : (nx ps n T i k)[i]? = some (ps[i].at (T + k)) := by simp [nx, h, pat_eq]
theorem nx_set (ps : List Pis) (n T i k : Nat) (h : i < ps.length) : (nx ps n T i k).set i (ps[i].at (T + k + 1)) = nx ps n T i (k + 1) := by
  apply List.ext_getElem
  · simp [nx]
  · intro j h1 h2
    simp only [nx, List.getElem_set, List.getElem_map, List.getElem_range]
    by_cases e : i = j
    · subst e
      rw [if_pos rfl, if_neg (by omega), if_pos rfl, pat_eq h]
      rfl
    · rw [if_neg e]
      by_cases e2 : j < i
      · rw [if_pos e2, if_pos e2]
      · rw [if_neg e2, if_neg e2, if_neg (by omega), if_neg (by omega)]
theorem nx_next (ps : List Pis) (n T i : Nat) : nx ps n T i n = nx ps n T (i + 1) 0 := by
  apply List.map_congr_left
  intro j _
  by_cases e : j < i
  · rw [if_pos e, if_pos (by omega)]
  · by_cases e2 : j = i
    · rw [if_neg e, if_pos e2, if_pos (by omega)]
    · rw [if_neg e, if_neg e2, if_neg (by omega)]
      by_cases e3 : j = i + 1
      · rw [if_pos e3]; rfl
      · rw [if_neg e3]
theorem nx_full (ps : List Pis) (n T : Nat) : nx ps n T ps.length 0 = nx ps n (T + n) 0 0 := by
  apply List.map_congr_left
  intro j hj
  have hj : j < ps.length := by simpa using hj
  rw [if_pos hj, if_neg (by omega)]
  by_cases e : j = 0
  · rw [if_pos e]; rfl
  · rw [if_neg e]
theorem nx_zero (ps : List Pis) (n : Nat) : (madeCells (Value.cells (.int .i64 0)) (ps.length * 1)).toList = (nx ps n 0 0 0).map (Value.int .i64) := by
  apply List.ext_getElem
  · simp [nx, madeCells]
  · intro i h1 h2
    have hi : i < ps.length := by simpa [nx] using h2
    simp [nx, madeCells, Value.cells, Nat.mod_one, pat_eq hi, Pis.at, placeS]
theorem nx_at (ps : List Pis) (n T j : Nat) (h : j < ps.length) : getI (nx ps n T 0 0) j = ps[j].at T := by
  simp only [getI, nx]
  simp [h, pat_eq]
theorem nx_same (ps : List Pis) (n K : Nat) : sameB (nx ps n (K * n) ps.length 0) (nx ps n (K * n) 0 0) = allCalm ps n K := by
  rw [nx_full]
  cases hc : allCalm ps n K with
  | true =>
    unfold allCalm at hc
    rw [List.all_eq_true] at hc
    refine (sameB_true (by simp [nx_length]) fun j hj => ?_).symm
    rw [nx_length] at hj
    rw [nx_at _ _ _ _ hj, nx_at _ _ _ _ hj]
    exact (of_decide_eq_true (hc _ (List.getElem_mem hj))).symm
  | false =>
    unfold allCalm at hc
    rw [List.all_eq_false] at hc
    obtain ⟨p, hp, hq⟩ := hc
    obtain ⟨j, hj, rfl⟩ := List.getElem_of_mem hp
    refine (sameB_at j ?_).symm
    rw [nx_at _ _ _ _ hj, nx_at _ _ _ _ hj]
    intro h
    exact hq (decide_eq_true h.symm)

theorem lcm_step (L q : Nat) : L / Nat.gcd q L * q = Nat.lcm L q := by
  rw [Nat.gcd_comm]
  exact Nat.div_mul_right_comm (Nat.gcd_dvd_left L q) q
theorem dvS_nat (q L : Nat) : dvS (q : Int) (L : Int) = ((Nat.gcd q L : Nat) : Int) := by
  unfold dvS
  rw [if_neg (by omega), Int.one_mul]
  rfl
theorem lcmTo_succ (ps : List Pis) (i : Nat) (h : i < ps.length) : lcmTo ps (i + 1) = Nat.lcm (lcmTo ps i) ps[i].lift.length := by
  conv => lhs; unfold lcmTo
  rw [List.getElem?_eq_getElem h]
/-- The bound as the code needs it: the entries of the first k pistons alone. -/
theorem lcmTo_le' (ps : List Pis) : ∀ i, (∀ j (hj : j < ps.length), j < i → 1 ≤ ps[j].lift.length ∧ ps[j].lift.length ≤ 24) → 0 < lcmTo ps i ∧ lcmTo ps i ≤ 24 ^ i
  | 0, _ => by simp [lcmTo]
  | i + 1, h => by
    have ih := lcmTo_le' ps i (fun j hj hji => h j hj (by omega))
    unfold lcmTo
    rw [Nat.pow_succ]
    cases hp : ps[i]? with
    | none => simp only; omega
    | some q =>
      obtain ⟨hi, rfl⟩ := List.getElem?_eq_some_iff.1 hp
      have h3 := h i hi (by omega)
      simp only
      exact ⟨Nat.lcm_pos ih.1 (by omega), Nat.le_trans (Nat.le_of_dvd (Nat.mul_pos ih.1 (by omega)) (Nat.lcm_dvd_mul _ _)) (Nat.mul_le_mul ih.2 h3.2)⟩
theorem pow24 {i : Nat} (h : i ≤ 6) : 24 ^ i ≤ 191102976 := Nat.le_trans (Nat.pow_le_pow_right (by omega) h) (by decide)

def cycAll (ps : List Pis) : Nat × Nat × Nat := if ps.all Pis.ok = true then cycS ps else (0, 0, 2)
theorem cycAll_bad {ps : List Pis} (h : ¬ ∀ p ∈ ps, p.ok = true) : cycAll ps = (0, 0, 2) := by
  unfold cycAll
  rw [if_neg]
  rw [List.all_eq_true]
  exact h
theorem cycAll_good {ps : List Pis} (h : ∀ p ∈ ps, p.ok = true) : cycAll ps = cycS ps := by
  unfold cycAll
  rw [if_pos]
  rw [List.all_eq_true]
  exact h
theorem cycS_big {ps : List Pis} (h : ∀ p ∈ ps, p.ok = true) (h5 : 5000 < lcmS ps) : cycS ps = (0, 0, 2) := by
  unfold cycS
  rw [if_pos ((per_lcm ps (fun p hp => by have := (p.okP (h p hp)).1; omega)).1.2 h5)]
theorem cycS_small {ps : List Pis} (h : ∀ p ∈ ps, p.ok = true) (h5 : lcmS ps ≤ 5000) : cycS ps = (kAll ps (lcmS ps) * lcmS ps, lcmS ps, 0) := by
  have hp := (per_lcm ps (fun p hp => by have := (p.okP (h p hp)).1; omega)).2 h5
  unfold cycS
  rw [hp, if_neg (by omega), kAll_eq h ((lcmS_dvd ps _).1 (Nat.dvd_refl _))]
end Go.Proofs.Ytbclbcldplmppaa
