/- Pistons, seventh text: plain laws on periods and cycles. No walk. -/
import Derived.Test.YtbclbcldplmppaaGv
namespace Go.Proofs.Ytbclbcldplmppaa

def runS (lift : List Int) (op st x : Int) : Nat → Int
  | 0 => x
  | t + 1 => tickS lift op st (runS lift op st x t) (t + 1)
theorem run_add (lift : List Int) (op st : Int) (T : Nat) (h : T % lift.length = 0) : ∀ t, placeS lift op st (T + t) = runS lift op st (placeS lift op st T) t
  | 0 => rfl
  | t + 1 => by
    show tickS lift op st (placeS lift op st (T + t)) (T + t + 1) = tickS lift op st (runS lift op st (placeS lift op st T) t) (t + 1)
    rw [run_add lift op st T h t]
    unfold tickS
    have : (T + t + 1 - 1) % lift.length = (t + 1 - 1) % lift.length := by
      rw [show T + t + 1 - 1 = T + t by omega, show t + 1 - 1 = t by omega, Nat.add_mod, h, Nat.zero_add, Nat.mod_mod]
    rw [this]
theorem run_mono (lift : List Int) (op st x y : Int) (h : x ≤ y) : ∀ t, runS lift op st x t ≤ runS lift op st y t
  | 0 => h
  | t + 1 => by
    have := run_mono lift op st x y h t
    show tickS _ _ _ _ _ ≤ tickS _ _ _ _ _
    unfold tickS
    split <;> omega

section
variable {lift : List Int} {op st : Int} {n : Nat}
theorem dvd_mul (hd : n % lift.length = 0) (k : Nat) : (k * n) % lift.length = 0 := by rw [Nat.mul_mod, hd]; simp
theorem per_next (hd : n % lift.length = 0) (k : Nat) : placeS lift op st (k * n + n) = runS lift op st (placeS lift op st (k * n)) n := run_add lift op st (k * n) (dvd_mul hd k) n
theorem per_mono (hd : n % lift.length = 0) (hs : 1 ≤ st) : ∀ k, placeS lift op st (k * n) ≤ placeS lift op st (k * n + n)
  | 0 => by
    rw [Nat.zero_mul]
    exact (place_bd lift op st hs (0 + n)).1
  | k + 1 => by
    have ih := per_mono hd hs k
    rw [per_next hd (k + 1), show (k + 1) * n = k * n + n by rw [Nat.add_mul]; omega]
    conv => lhs; rw [per_next hd k]
    exact run_mono _ _ _ _ _ ih n
theorem per_stay (hd : n % lift.length = 0) (k : Nat) (h : placeS lift op st (k * n) = placeS lift op st (k * n + n)) : placeS lift op st ((k + 1) * n) = placeS lift op st ((k + 1) * n + n) := by
  rw [per_next hd (k + 1), show (k + 1) * n = k * n + n by rw [Nat.add_mul]; omega, ← h]
  rw [← per_next hd k]
  exact h
theorem per_stays (hd : n % lift.length = 0) (k j : Nat) (hj : k ≤ j) (h : placeS lift op st (k * n) = placeS lift op st (k * n + n)) : placeS lift op st (j * n) = placeS lift op st (j * n + n) := by
  induction j with
  | zero => have : k = 0 := by omega
            subst this; exact h
  | succ j ih =>
    by_cases e : k = j + 1
    · subst e; exact h
    · exact per_stay hd j (ih (by omega))
theorem per_climb (hd : n % lift.length = 0) (hs : 1 ≤ st) : ∀ k : Nat, (∀ j, j < k → placeS lift op st (j * n) ≠ placeS lift op st (j * n + n)) → (k : Int) ≤ placeS lift op st (k * n)
  | 0, _ => by rw [Nat.zero_mul]; simp [placeS]
  | k + 1, h => by
    have ih := per_climb hd hs k (fun j hj => h j (by omega))
    have h1 := h k (by omega)
    have h2 := per_mono (op := op) hd hs k
    rw [show (k + 1) * n = k * n + n by rw [Nat.add_mul]; omega]
    omega
theorem per_exists (hd : n % lift.length = 0) (hs : 1 ≤ st) (hs2 : st ≤ 20) : placeS lift op st (20 * n) = placeS lift op st (20 * n + n) := by
  rcases Classical.em (∃ j, j < 21 ∧ placeS lift op st (j * n) = placeS lift op st (j * n + n)) with ⟨j, hj, h⟩ | hno
  · exact per_stays hd j 20 (by omega) h
  · have := per_climb (op := op) hd hs 21 (fun j hj h => hno ⟨j, hj, h⟩)
    have := (place_bd lift op st hs (21 * n)).2
    omega
end

/-- The least number from k on with a property; the search ends behind f steps. -/
def firstFrom (P : Nat → Bool) : Nat → Nat → Nat
  | 0, k => k
  | f + 1, k => if P k = true then k else firstFrom P f (k + 1)
theorem firstFrom_spec (P : Nat → Bool) : ∀ f k, P (k + f) = true → P (firstFrom P f k) = true ∧ k ≤ firstFrom P f k ∧ firstFrom P f k ≤ k + f ∧ ∀ j, k ≤ j → j < firstFrom P f k → P j = false
  | 0, k, h => ⟨h, Nat.le_refl _, Nat.le_refl _, fun j h1 h2 => by simp [firstFrom] at h2; omega⟩
  | f + 1, k, h => by
    unfold firstFrom
    split
    · rename_i hk
      exact ⟨hk, Nat.le_refl _, by omega, fun j h1 h2 => by omega⟩
    · rename_i hk
      obtain ⟨h1, h2, h3, h4⟩ := firstFrom_spec P f (k + 1) (by rw [show k + 1 + f = k + (f + 1) by omega]; exact h)
      refine ⟨h1, by omega, by omega, fun j hj1 hj2 => ?_⟩
      by_cases e : j = k
      · subst e; simpa using hk
      · exact h4 j (by omega) hj2

def Pis.at (p : Pis) (t : Nat) : Int := placeS p.lift p.op p.st t
/-- At the k-th period nothing changes. -/
def Pis.calm (p : Pis) (n k : Nat) : Bool := decide (p.at (k * n) = p.at (k * n + n))
def Pis.first (p : Pis) (n : Nat) : Nat := firstFrom (p.calm n) 20 0

theorem Pis.okP {p : Pis} (h : p.ok = true) : vpP p.lift p.op p.st := by simpa [Pis.ok, vpB] using h
theorem Pis.first_spec {p : Pis} {n : Nat} (h : p.ok = true) (hd : n % p.lift.length = 0) : p.calm n (p.first n) = true ∧ p.first n ≤ 20 ∧ ∀ j, j < p.first n → p.calm n j = false := by
  have hv := p.okP h
  have := firstFrom_spec (p.calm n) 20 0 (by simp only [Pis.calm, Pis.at]; exact decide_eq_true (per_exists hd hv.2.2.2.2.2.1 hv.2.2.2.2.2.2))
  exact ⟨this.1, by have := this.2.2.1; unfold Pis.first; omega, fun j hj => this.2.2.2 j (by omega) hj⟩
theorem Pis.calm_stays {p : Pis} {n k j : Nat} (hd : n % p.lift.length = 0) (hj : k ≤ j) (h : p.calm n k = true) : p.calm n j = true := by
  unfold Pis.calm Pis.at at *
  exact decide_eq_true (per_stays hd k j hj (of_decide_eq_true h))

/-- The greatest of the first i starts. -/
def stR (ps : List Pis) (n : Nat) : Nat → Nat
  | 0 => 0
  | i + 1 => max (stR ps n i) (match ps[i]? with | some p => p.first n * n | none => 0)

def allCalm (ps : List Pis) (n k : Nat) : Bool := ps.all fun p => p.calm n k
def kAll (ps : List Pis) (n : Nat) : Nat := firstFrom (allCalm ps n) 20 0

section
variable {ps : List Pis} {n : Nat}
theorem kAll_spec (hok : ∀ p ∈ ps, p.ok = true) (hd : ∀ p ∈ ps, n % p.lift.length = 0) : allCalm ps n (kAll ps n) = true ∧ kAll ps n ≤ 20 ∧ ∀ j, j < kAll ps n → allCalm ps n j = false := by
  have := firstFrom_spec (allCalm ps n) 20 0 (by
    unfold allCalm
    rw [List.all_eq_true]
    intro p hp
    obtain ⟨h1, h2, _⟩ := Pis.first_spec (hok p hp) (hd p hp)
    exact Pis.calm_stays (hd p hp) (by omega) h1)
  exact ⟨this.1, by have := this.2.2.1; unfold kAll; omega, fun j hj => this.2.2.2 j (by omega) hj⟩
theorem first_le (hok : ∀ p ∈ ps, p.ok = true) (hd : ∀ p ∈ ps, n % p.lift.length = 0) (p : Pis) (hp : p ∈ ps) : p.first n ≤ kAll ps n := by
  have h1 := (kAll_spec hok hd).1
  unfold allCalm at h1
  rw [List.all_eq_true] at h1
  have h2 := h1 p hp
  rcases Nat.lt_or_ge (kAll ps n) (p.first n) with h | h
  · rw [(Pis.first_spec (hok p hp) (hd p hp)).2.2 _ h] at h2; cases h2
  · exact h
theorem stR_le (hok : ∀ p ∈ ps, p.ok = true) (hd : ∀ p ∈ ps, n % p.lift.length = 0) (i : Nat) : stR ps n i ≤ kAll ps n * n := by
  induction i with
  | zero => simp [stR]
  | succ i ih =>
    unfold stR
    cases hp : ps[i]? with
    | none => simp; exact ih
    | some p =>
      have := Nat.mul_le_mul_right n (first_le hok hd p (List.mem_of_getElem? hp))
      simp only
      omega
theorem stR_ge (i j : Nat) (hi : i < j) (p : Pis) (hp : ps[i]? = some p) : p.first n * n ≤ stR ps n j := by
  induction j with
  | zero => omega
  | succ j ih =>
    unfold stR
    by_cases e : i = j
    · subst e; rw [hp]; simp only; omega
    · have := ih (by omega); omega
theorem kAll_eq (hok : ∀ p ∈ ps, p.ok = true) (hd : ∀ p ∈ ps, n % p.lift.length = 0) : kAll ps n * n = stR ps n ps.length := by
  apply Nat.le_antisymm _ (stR_le hok hd _)
  rcases Nat.eq_zero_or_pos (kAll ps n) with h0 | hpos
  · rw [h0]; simp
  · have h := (kAll_spec hok hd).2.2 (kAll ps n - 1) (by omega)
    unfold allCalm at h
    rw [List.all_eq_false] at h
    obtain ⟨p, hp, hc⟩ := h
    obtain ⟨h1, _, h3⟩ := Pis.first_spec (hok p hp) (hd p hp)
    have hle : kAll ps n ≤ p.first n := by
      rcases Nat.lt_or_ge (p.first n) (kAll ps n) with h | h
      · exact absurd (Pis.calm_stays (hd p hp) (show p.first n ≤ kAll ps n - 1 by omega) h1) hc
      · exact h
    obtain ⟨i, hi, rfl⟩ := List.getElem_of_mem hp
    have := stR_ge (n := n) i ps.length hi _ (List.getElem?_eq_getElem hi)
    have := Nat.mul_le_mul_right n hle
    omega
end

/-! ### The least common multiple -/

def lcmTo (ps : List Pis) : Nat → Nat
  | 0 => 1
  | i + 1 => match ps[i]? with | some p => Nat.lcm (lcmTo ps i) p.lift.length | none => lcmTo ps i
theorem lcmTo_dvd (ps : List Pis) (j : Nat) : ∀ i, lcmTo ps i ∣ j ↔ ∀ k, k < i → ∀ p, ps[k]? = some p → p.lift.length ∣ j
  | 0 => by simp [lcmTo]
  | i + 1 => by
    unfold lcmTo
    cases hp : ps[i]? with
    | none =>
      simp only
      rw [lcmTo_dvd ps j i]
      exact ⟨fun h k hk p hk' => by
        by_cases e : k = i
        · subst e; rw [hp] at hk'; cases hk'
        · exact h k (by omega) p hk', fun h k hk p hk' => h k (by omega) p hk'⟩
    | some q =>
      simp only
      constructor
      · intro h k hk p hk'
        by_cases e : k = i
        · subst e; rw [hp] at hk'; injection hk' with hk'; subst hk'; exact Nat.dvd_trans (Nat.dvd_lcm_right _ _) h
        · exact (lcmTo_dvd ps j i).1 (Nat.dvd_trans (Nat.dvd_lcm_left _ _) h) k (by omega) p hk'
      · intro h
        exact Nat.lcm_dvd ((lcmTo_dvd ps j i).2 fun k hk p hk' => h k (by omega) p hk') (h i (by omega) q hp)
def lcmS (ps : List Pis) : Nat := lcmTo ps ps.length
theorem lcmS_dvd (ps : List Pis) (j : Nat) : lcmS ps ∣ j ↔ ∀ p ∈ ps, j % p.lift.length = 0 := by
  unfold lcmS
  rw [lcmTo_dvd]
  constructor
  · intro h p hp
    obtain ⟨i, hi, rfl⟩ := List.getElem_of_mem hp
    exact Nat.mod_eq_zero_of_dvd (h i hi _ (List.getElem?_eq_getElem hi))
  · intro h k _ p hp
    exact Nat.dvd_of_mod_eq_zero (h p (List.mem_of_getElem? hp))
theorem lcmTo_pos (ps : List Pis) (h : ∀ p ∈ ps, 0 < p.lift.length) : ∀ i, 0 < lcmTo ps i
  | 0 => by simp [lcmTo]
  | i + 1 => by
    unfold lcmTo
    cases hp : ps[i]? with
    | none => exact lcmTo_pos ps h i
    | some q => exact Nat.lcm_pos (lcmTo_pos ps h i) (h q (List.mem_of_getElem? hp))
theorem lcmTo_le (ps : List Pis) (h : ∀ p ∈ ps, 0 < p.lift.length) (h2 : ∀ p ∈ ps, p.lift.length ≤ 24) : ∀ i, lcmTo ps i ≤ 24 ^ i
  | 0 => by simp [lcmTo]
  | i + 1 => by
    have ih := lcmTo_le ps h h2 i
    unfold lcmTo
    rw [Nat.pow_succ]
    cases hp : ps[i]? with
    | none => simp only; omega
    | some q =>
      simp only
      have h3 := h2 q (List.mem_of_getElem? hp)
      exact Nat.le_trans (Nat.le_of_dvd (Nat.mul_pos (lcmTo_pos ps h i) (h q (List.mem_of_getElem? hp))) (Nat.lcm_dvd_mul _ _)) (Nat.mul_le_mul ih h3)
theorem fits_iff (ps : List Pis) (j : Nat) (h : j ≤ 5000) : fitsB ps j = true ↔ lcmS ps ∣ j := by
  rw [lcmS_dvd]
  simp [fitsB, show ¬ 5000 < j by omega]
theorem per_lcm (ps : List Pis) (h : ∀ p ∈ ps, 0 < p.lift.length) : (5000 < perS ps ↔ 5000 < lcmS ps) ∧ (lcmS ps ≤ 5000 → perS ps = lcmS ps) := by
  obtain ⟨h1, h2, h3, h4⟩ := perS_spec ps
  have hpos : 0 < lcmS ps := lcmTo_pos ps h _
  have key : lcmS ps ≤ 5000 → perS ps = lcmS ps := fun hl => by
    have hf := (fits_iff ps (lcmS ps) hl).2 (Nat.dvd_refl _)
    have hle : perS ps ≤ lcmS ps := by
      rcases Nat.lt_or_ge (lcmS ps) (perS ps) with hh | hh
      · rw [h4 _ hpos hh] at hf; cases hf
      · exact hh
    exact Nat.le_antisymm hle (Nat.le_of_dvd h2 ((fits_iff ps _ (by omega)).1 h1))
  refine ⟨⟨fun hp => ?_, fun hl => ?_⟩, key⟩
  · rcases Nat.lt_or_ge 5000 (lcmS ps) with hh | hh
    · exact hh
    · have := key hh; omega
  · rcases Nat.lt_or_ge 5000 (perS ps) with hh | hh
    · exact hh
    · have := Nat.le_of_dvd h2 ((fits_iff ps _ hh).1 h1); omega
end Go.Proofs.Ytbclbcldplmppaa
