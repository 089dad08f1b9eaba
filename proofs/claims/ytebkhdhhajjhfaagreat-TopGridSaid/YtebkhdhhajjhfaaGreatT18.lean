/- Two convex polygons and a line between: an edge is enough. Plain Lean. -/
import Derived.Test.YtebkhdhhajjhfaaGreatT01
namespace Go.Proofs.YtebkhdhhajjhfaaGreat
theorem mul_le_cancel {t z : Int} (ht : 0 < t) (h : 0 ≤ t * z) : 0 ≤ z := by
  rcases Int.lt_or_le z 0 with hz | hz
  · have := Int.mul_neg_of_pos_of_neg ht hz
    omega
  · exact hz
/-- fractions: σ = q/p, τ = s/r; p, r at least 0, (p,q) not (0, at most 0)... -/
theorem cone_up {p1 r1 r0 q1 s1 s0 : Int} (hp1 : 0 ≤ p1) (hr1 : 0 ≤ r1) (hr0 : 0 ≤ r0) (hq : p1 = 0 → 0 < q1) (h2 : 0 < r1 * s0 - s1 * r0) (h : 0 ≤ p1 * s1 + q1 * r1) : 0 ≤ p1 * s0 + q1 * r0 := by
  rcases Int.lt_or_le 0 r1 with hr | hr
  · apply mul_le_cancel hr
    have e : r1 * (p1 * s0 + q1 * r0) = p1 * (r1 * s0 - s1 * r0) + r0 * (p1 * s1 + q1 * r1) := by grind
    rw [e]
    have a1 := Int.mul_nonneg hp1 (Int.le_of_lt h2)
    have a2 := Int.mul_nonneg hr0 h
    omega
  · obtain rfl : r1 = 0 := by omega
    have hr0' : 0 < r0 := by
      rcases Int.lt_or_le 0 r0 with h0 | h0
      · exact h0
      · obtain rfl : r0 = 0 := by omega
        simp at h2
    have hs1 : s1 < 0 := by
      rcases Int.lt_or_le s1 0 with h0 | h0
      · exact h0
      · have := Int.mul_nonneg h0 hr0
        omega
    have hp : p1 = 0 := by
      rcases Int.lt_or_le 0 p1 with h0 | h0
      · have := Int.mul_neg_of_pos_of_neg h0 hs1
        omega
      · omega
    subst hp
    have := Int.mul_pos (hq rfl) hr0'
    omega
/-- transitivity: ρ ≤ σ1, σ1 < -τ1 gives ρ ≤ -τ1. -/
theorem cone_tr {p1 r1 q1 s1 x y : Int} (hp1 : 0 ≤ p1) (hr1 : 0 ≤ r1) (hx : 0 ≤ x) (hq : p1 = 0 → 0 < q1) (h : p1 * s1 + q1 * r1 < 0) (hv : 0 ≤ q1 * x - p1 * y) : r1 * y + s1 * x ≤ 0 := by
  rcases Int.lt_or_le 0 p1 with hp | hp
  · have : 0 ≤ -(r1 * y + s1 * x) := by
      apply mul_le_cancel hp
      have e : p1 * -(r1 * y + s1 * x) = r1 * (q1 * x - p1 * y) + x * -(p1 * s1 + q1 * r1) := by grind
      rw [e]
      have a1 := Int.mul_nonneg hr1 hv
      have a2 : 0 ≤ x * -(p1 * s1 + q1 * r1) := Int.mul_nonneg hx (by omega)
      omega
    omega
  · obtain rfl : p1 = 0 := by omega
    have := Int.mul_nonneg (Int.le_of_lt (hq rfl)) hr1
    omega
theorem cone {p1 p0 r1 r0 q1 q0 s1 s0 x y : Int} (hp1 : 0 ≤ p1) (hp0 : 0 ≤ p0) (hr1 : 0 ≤ r1) (hr0 : 0 ≤ r0) (hx : 0 ≤ x) (h1 : 0 < q1 * p0 - p1 * q0) (h2 : 0 < r1 * s0 - s1 * r0) :
    (0 ≤ p1 * s1 + q1 * r1 ∧ 0 ≤ p1 * s0 + q1 * r0 ∧ 0 ≤ q1 * x - p1 * y) ∨ (p0 * s1 + q0 * r1 ≤ 0 ∧ p0 * s0 + q0 * r0 ≤ 0 ∧ q0 * x - p0 * y ≤ 0) ∨
    (r1 * q1 + s1 * p1 ≤ 0 ∧ r1 * q0 + s1 * p0 ≤ 0 ∧ r1 * y + s1 * x ≤ 0) ∨ (0 ≤ r0 * q1 + s0 * p1 ∧ 0 ≤ r0 * q0 + s0 * p0 ∧ 0 ≤ r0 * y + s0 * x) := by
  have z1 : p1 = 0 → 0 < q1 := fun h => by
    subst h
    rcases Int.lt_or_le 0 q1 with h0 | h0
    · exact h0
    · have := Int.mul_nonneg (show 0 ≤ -q1 by omega) hp0
      have e : -q1 * p0 = -(q1 * p0) := by grind
      omega
  have z0 : p0 = 0 → q0 < 0 := fun h => by
    subst h
    rcases Int.lt_or_le q0 0 with h0 | h0
    · exact h0
    · have := Int.mul_nonneg hp1 h0
      omega
  rcases Int.lt_or_le (q1 * x - p1 * y) 0 with hv | hv
  · -- rho above sigma1, so above sigma0
    have hv0 : q0 * x - p0 * y ≤ 0 := by
      rcases Int.lt_or_le 0 p1 with hp | hp
      · have : 0 ≤ -(q0 * x - p0 * y) := by
          apply mul_le_cancel hp
          have e : p1 * -(q0 * x - p0 * y) = x * (q1 * p0 - p1 * q0) + p0 * -(q1 * x - p1 * y) := by grind
          rw [e]
          have a1 := Int.mul_nonneg hx (Int.le_of_lt h1)
          have a2 : 0 ≤ p0 * -(q1 * x - p1 * y) := Int.mul_nonneg hp0 (by omega)
          omega
        omega
      · obtain rfl : p1 = 0 := by omega
        have := Int.mul_nonneg (Int.le_of_lt (z1 rfl)) hx
        omega
    rcases Int.lt_or_le 0 (p0 * s0 + q0 * r0) with hs | hs
    · refine .inr (.inr (.inr ⟨?_, ?_, ?_⟩))
      · -- sigma1 > sigma0 > -tau0
        rcases Int.lt_or_le 0 p0 with hp | hp
        · apply mul_le_cancel hp
          have e : p0 * (r0 * q1 + s0 * p1) = r0 * (q1 * p0 - p1 * q0) + p1 * (p0 * s0 + q0 * r0) := by grind
          rw [e]
          have a1 := Int.mul_nonneg hr0 (Int.le_of_lt h1)
          have a2 := Int.mul_nonneg hp1 (Int.le_of_lt hs)
          omega
        · obtain rfl : p0 = 0 := by omega
          have := Int.mul_nonneg (show 0 ≤ -q0 by have := z0 rfl; omega) hr0
          have e : -q0 * r0 = -(q0 * r0) := by grind
          omega
      · have e : r0 * q0 + s0 * p0 = p0 * s0 + q0 * r0 := by grind
        omega
      · rcases Int.lt_or_le 0 p0 with hp | hp
        · apply mul_le_cancel hp
          have e : p0 * (r0 * y + s0 * x) = x * (p0 * s0 + q0 * r0) + r0 * -(q0 * x - p0 * y) := by grind
          rw [e]
          have a1 := Int.mul_nonneg hx (Int.le_of_lt hs)
          have a2 : 0 ≤ r0 * -(q0 * x - p0 * y) := Int.mul_nonneg hr0 (by omega)
          omega
        · obtain rfl : p0 = 0 := by omega
          have := Int.mul_nonneg (show 0 ≤ -q0 by have := z0 rfl; omega) hr0
          have e : -q0 * r0 = -(q0 * r0) := by grind
          omega
    · refine .inr (.inl ⟨?_, hs, hv0⟩)
      -- tau1 < tau0, sigma0 + tau0 ≤ 0
      have z2 : r0 = 0 → 0 < s0 := fun h => by
        subst h
        rcases Int.lt_or_le 0 s0 with h0 | h0
        · exact h0
        · have := Int.mul_nonneg hr1 (show 0 ≤ -s0 by omega)
          have e : r1 * -s0 = -(r1 * s0) := by grind
          omega
      rcases Int.lt_or_le 0 r0 with hr | hr
      · have : 0 ≤ -(p0 * s1 + q0 * r1) := by
          apply mul_le_cancel hr
          have e : r0 * -(p0 * s1 + q0 * r1) = p0 * (r1 * s0 - s1 * r0) + r1 * -(p0 * s0 + q0 * r0) := by grind
          rw [e]
          have a1 := Int.mul_nonneg hp0 (Int.le_of_lt h2)
          have a2 : 0 ≤ r1 * -(p0 * s0 + q0 * r0) := Int.mul_nonneg hr1 (by omega)
          omega
        omega
      · obtain rfl : r0 = 0 := by omega
        have hp : p0 = 0 := by
          rcases Int.lt_or_le 0 p0 with h0 | h0
          · have := Int.mul_pos h0 (z2 rfl)
            omega
          · omega
        subst hp
        have := Int.mul_nonneg (show 0 ≤ -q0 by have := z0 rfl; omega) hr1
        have e : -q0 * r1 = -(q0 * r1) := by grind
        omega
  · rcases Int.lt_or_le (p1 * s1 + q1 * r1) 0 with hs | hs
    · refine .inr (.inr (.inl ⟨?_, ?_, cone_tr hp1 hr1 hx z1 hs hv⟩))
      · have e : r1 * q1 + s1 * p1 = p1 * s1 + q1 * r1 := by grind
        omega
      · have := cone_tr (x := p0) (y := q0) hp1 hr1 hp0 z1 hs (by omega)
        exact this
    · exact .inl ⟨hs, cone_up hp1 hr1 hr0 z1 h2 hs, hv⟩
/-- A place. -/
structure Sp where
  x : Int
  y : Int
  deriving DecidableEq
/-- Above 0 if c is to the left of the edge from a to b. -/
def sd (a b c : Sp) : Int := (b.x - a.x) * (c.y - a.y) - (b.y - a.y) * (c.x - a.x)
/-- A convex polygon: each other corner is strictly to the left of each edge. -/
def Cvx (K : Nat → Sp) (n : Nat) : Prop := 3 ≤ n ∧ ∀ i k, i < n → k < n → k ≠ i → k ≠ (i + 1) % n → 0 < sd (K i) (K ((i + 1) % n)) (K k)
/-- An edge of K has all of L on its line or to the right. -/
def Prt (K : Nat → Sp) (n : Nat) (L : Nat → Sp) (m : Nat) : Prop := ∃ i, i < n ∧ ∀ j, j < m → sd (K i) (K ((i + 1) % n)) (L j) ≤ 0
theorem sd_self1 (a b : Sp) : sd a b a = 0 := by unfold sd; grind
theorem sd_self2 (a b : Sp) : sd a b b = 0 := by unfold sd; grind
theorem Cvx.ge {K : Nat → Sp} {n : Nat} (h : Cvx K n) {i k : Nat} (hi : i < n) (hk : k < n) : 0 ≤ sd (K i) (K ((i + 1) % n)) (K k) := by
  by_cases h1 : k = i
  · subst h1; rw [sd_self1]; exact Int.le_refl _
  · by_cases h2 : k = (i + 1) % n
    · subst h2; rw [sd_self2]; exact Int.le_refl _
    · exact Int.le_of_lt (h.2 i k hi hk h1 h2)
theorem max_at (f : Nat → Int) : ∀ n, 0 < n → ∃ i, i < n ∧ ∀ k, k < n → f k ≤ f i
  | 0, h => absurd h (by omega)
  | 1, _ => ⟨0, by omega, fun k hk => by obtain rfl : k = 0 := by omega
                                         exact Int.le_refl _⟩
  | n + 2, _ => by
    obtain ⟨i, hi, h⟩ := max_at f (n + 1) (by omega)
    by_cases hc : f i ≤ f (n + 1)
    · refine ⟨n + 1, by omega, fun k hk => ?_⟩
      by_cases hk2 : k < n + 1
      · have := h k hk2; omega
      · obtain rfl : k = n + 1 := by omega
        exact Int.le_refl _
    · refine ⟨i, by omega, fun k hk => ?_⟩
      by_cases hk2 : k < n + 1
      · exact h k hk2
      · obtain rfl : k = n + 1 := by omega
        omega
/-- The corner before. -/
theorem before {n i : Nat} (hn : 3 ≤ n) (hi : i < n) : ∃ p, p < n ∧ (p + 1) % n = i ∧ p ≠ i ∧ p ≠ (i + 1) % n := by
  by_cases h : i = 0
  · subst h
    refine ⟨n - 1, by omega, ?_, by omega, ?_⟩
    · rw [show n - 1 + 1 = n by omega, Nat.mod_self]
    · rw [Nat.mod_eq_of_lt (by omega)]; omega
  · refine ⟨i - 1, by omega, ?_, by omega, ?_⟩
    · rw [show i - 1 + 1 = i by omega, Nat.mod_eq_of_lt hi]
    · by_cases h2 : i + 1 < n
      · rw [Nat.mod_eq_of_lt h2]; omega
      · rw [show i + 1 = n by omega, Nat.mod_self]; omega
/-- What lies in the cone of a corner. -/
theorem in_cone {f1x f1y f0x f0y ux uy ex ey : Int} (hd : 0 < f1x * f0y - f1y * f0x) (h1 : 0 ≤ f1x * uy - f1y * ux) (h0 : 0 ≤ ux * f0y - uy * f0x)
    (e1 : ex * f1y - ey * f1x ≤ 0) (e0 : ex * f0y - ey * f0x ≤ 0) : ex * uy - ey * ux ≤ 0 := by
  have : 0 ≤ -(ex * uy - ey * ux) := by
    apply mul_le_cancel hd
    have e : (f1x * f0y - f1y * f0x) * -(ex * uy - ey * ux) = (ux * f0y - uy * f0x) * -(ex * f1y - ey * f1x) + (f1x * uy - f1y * ux) * -(ex * f0y - ey * f0x) := by grind
    rw [e]
    have a1 : 0 ≤ (ux * f0y - uy * f0x) * -(ex * f1y - ey * f1x) := Int.mul_nonneg h0 (by omega)
    have a2 : 0 ≤ (f1x * uy - f1y * ux) * -(ex * f0y - ey * f0x) := Int.mul_nonneg h1 (by omega)
    omega
  omega
/-- The number of a place in a direction, and across it. -/
theorem cross_by {A B ux uy wx wy : Int} : (A * A + B * B) * (ux * wy - uy * wx) = (A * ux + B * uy) * (A * wy - B * wx) - (A * uy - B * ux) * (A * wx + B * wy) := by grind
theorem neg_of_scaled {N z : Int} (hN : 0 < N) (h : N * z ≤ 0) : z ≤ 0 := by
  have : 0 ≤ -z := mul_le_cancel hN (by rw [Int.mul_neg]; omega)
  omega
/-- EDGES ARE ENOUGH AS LINES. -/
theorem sep {K L : Nat → Sp} {n m : Nat} (hK : Cvx K n) (hL : Cvx L m) {A B : Int} (hAB : ¬ (A = 0 ∧ B = 0)) (h : ∀ k l, k < n → l < m → A * (K k).x + B * (K k).y ≤ A * (L l).x + B * (L l).y) : Prt K n L m ∨ Prt L m K n := by
  have hN : 0 < A * A + B * B := by
    have a1 : ∀ z : Int, 0 ≤ z * z := fun z => by
      rcases Int.le_total 0 z with h0 | h0
      · exact Int.mul_nonneg h0 h0
      · exact Int.mul_nonneg_of_nonpos_of_nonpos h0 h0
    have a2 : ∀ z : Int, z * z = 0 → z = 0 := fun z hz => by
      rcases Int.mul_eq_zero.1 hz with h0 | h0 <;> exact h0
    have := a1 A
    have := a1 B
    rcases Int.lt_or_le 0 (A * A + B * B) with h0 | h0
    · exact h0
    · exact absurd ⟨a2 A (by omega), a2 B (by omega)⟩ hAB
  obtain ⟨i, hi, him⟩ := max_at (fun k => A * (K k).x + B * (K k).y) n (by have := hK.1; omega)
  obtain ⟨j, hj, hjm⟩ := max_at (fun k => -(A * (L k).x + B * (L k).y)) m (by have := hL.1; omega)
  obtain ⟨p, hp, hpi, hp1, hp2⟩ := before hK.1 hi
  obtain ⟨q, hq, hqj, hq1, hq2⟩ := before hL.1 hj
  have hi1 : (i + 1) % n < n := Nat.mod_lt _ (by omega)
  have hj1 : (j + 1) % m < m := Nat.mod_lt _ (by omega)
  have kc := hK.2 i p hi hp hp1 hp2
  have lc := hL.2 j q hj hq hq1 hq2
  have k1 := fun k (hk : k < n) => hK.ge hi hk
  have k0 := fun k (hk : k < n) => hK.ge hp hk
  have l1 := fun k (hk : k < m) => hL.ge hj hk
  have l0 := fun k (hk : k < m) => hL.ge hq hk
  have m1 := him _ hi1
  have m0 := him _ hp
  have n1 := hjm _ hj1
  have n0 := hjm _ hq
  have hv := h i j hi hj
  simp only [hpi, hqj] at k0 l0
  -- the numbers
  have hc := cone (p1 := -(A * ((K ((i + 1) % n)).x - (K i).x) + B * ((K ((i + 1) % n)).y - (K i).y))) (q1 := A * ((K ((i + 1) % n)).y - (K i).y) - B * ((K ((i + 1) % n)).x - (K i).x))
    (p0 := -(A * ((K p).x - (K i).x) + B * ((K p).y - (K i).y))) (q0 := A * ((K p).y - (K i).y) - B * ((K p).x - (K i).x))
    (r1 := A * ((L ((j + 1) % m)).x - (L j).x) + B * ((L ((j + 1) % m)).y - (L j).y)) (s1 := A * ((L ((j + 1) % m)).y - (L j).y) - B * ((L ((j + 1) % m)).x - (L j).x))
    (r0 := A * ((L q).x - (L j).x) + B * ((L q).y - (L j).y)) (s0 := A * ((L q).y - (L j).y) - B * ((L q).x - (L j).x))
    (x := -(A * ((K i).x - (L j).x) + B * ((K i).y - (L j).y))) (y := A * ((K i).y - (L j).y) - B * ((K i).x - (L j).x))
    (by simp only [Int.mul_sub]; omega) (by simp only [Int.mul_sub]; omega) (by simp only [Int.mul_sub]; omega) (by simp only [Int.mul_sub]; omega) (by simp only [Int.mul_sub]; omega)
    (by
      have e := cross_by (A := A) (B := B) (ux := (K ((i + 1) % n)).x - (K i).x) (uy := (K ((i + 1) % n)).y - (K i).y) (wx := (K p).x - (K i).x) (wy := (K p).y - (K i).y)
      have := Int.mul_pos hN kc
      unfold sd at this
      grind)
    (by
      have e := cross_by (A := A) (B := B) (ux := (L ((j + 1) % m)).x - (L j).x) (uy := (L ((j + 1) % m)).y - (L j).y) (wx := (L q).x - (L j).x) (wy := (L q).y - (L j).y)
      have := Int.mul_pos hN lc
      unfold sd at this
      grind)
  clear him hjm m1 m0 n1 n0 hv h
  unfold sd at kc lc k1 k0 l1 l0
  unfold Prt sd
  generalize hKi : K ((i + 1) % n) = Ki at *
  generalize hLi : L ((j + 1) % m) = Li at *
  rcases hc with ⟨h1, h2, h3⟩ | ⟨h1, h2, h3⟩ | ⟨h1, h2, h3⟩ | ⟨h1, h2, h3⟩
  · refine .inl ⟨i, hi, fun l hl => ?_⟩
    have a1 := l1 l hl
    have a0 := l0 l hl
    have c1 : (Ki.x - (K i).x) * (Li.y - (L j).y) - (Ki.y - (K i).y) * (Li.x - (L j).x) ≤ 0 := neg_of_scaled hN (by rw [cross_by]; grind)
    have c0 : (Ki.x - (K i).x) * ((L q).y - (L j).y) - (Ki.y - (K i).y) * ((L q).x - (L j).x) ≤ 0 := neg_of_scaled hN (by rw [cross_by]; grind)
    have cv : (Ki.y - (K i).y) * ((K i).x - (L j).x) - (Ki.x - (K i).x) * ((K i).y - (L j).y) ≤ 0 := neg_of_scaled hN (by
      have := cross_by (A := A) (B := B) (ux := Ki.x - (K i).x) (uy := Ki.y - (K i).y) (wx := (K i).x - (L j).x) (wy := (K i).y - (L j).y)
      grind)
    have := in_cone (f1x := Li.x - (L j).x) (f1y := Li.y - (L j).y) (f0x := (L q).x - (L j).x) (f0y := (L q).y - (L j).y) (ux := (L l).x - (L j).x) (uy := (L l).y - (L j).y) lc (by grind) (by grind) c1 c0
    rw [hKi]
    grind
  · refine .inl ⟨p, hp, fun l hl => ?_⟩
    rw [hpi]
    have a1 := l1 l hl
    have a0 := l0 l hl
    have c1 : ((K i).x - (K p).x) * (Li.y - (L j).y) - ((K i).y - (K p).y) * (Li.x - (L j).x) ≤ 0 := neg_of_scaled hN (by rw [cross_by]; grind)
    have c0 : ((K i).x - (K p).x) * ((L q).y - (L j).y) - ((K i).y - (K p).y) * ((L q).x - (L j).x) ≤ 0 := neg_of_scaled hN (by rw [cross_by]; grind)
    have cv : ((K p).x - (K i).x) * ((K i).y - (L j).y) - ((K p).y - (K i).y) * ((K i).x - (L j).x) ≤ 0 := neg_of_scaled hN (by rw [cross_by]; grind)
    have := in_cone (f1x := Li.x - (L j).x) (f1y := Li.y - (L j).y) (f0x := (L q).x - (L j).x) (f0y := (L q).y - (L j).y) (ux := (L l).x - (L j).x) (uy := (L l).y - (L j).y) lc (by grind) (by grind) c1 c0
    grind
  · refine .inr ⟨j, hj, fun k hk => ?_⟩
    have a1 := k1 k hk
    have a0 := k0 k hk
    have c1 : (Li.x - (L j).x) * (Ki.y - (K i).y) - (Li.y - (L j).y) * (Ki.x - (K i).x) ≤ 0 := neg_of_scaled hN (by rw [cross_by]; grind)
    have c0 : (Li.x - (L j).x) * ((K p).y - (K i).y) - (Li.y - (L j).y) * ((K p).x - (K i).x) ≤ 0 := neg_of_scaled hN (by rw [cross_by]; grind)
    have cv : (Li.x - (L j).x) * ((K i).y - (L j).y) - (Li.y - (L j).y) * ((K i).x - (L j).x) ≤ 0 := neg_of_scaled hN (by rw [cross_by]; grind)
    have := in_cone (f1x := Ki.x - (K i).x) (f1y := Ki.y - (K i).y) (f0x := (K p).x - (K i).x) (f0y := (K p).y - (K i).y) (ux := (K k).x - (K i).x) (uy := (K k).y - (K i).y) kc (by grind) (by grind) c1 c0
    rw [hLi]
    grind
  · refine .inr ⟨q, hq, fun k hk => ?_⟩
    rw [hqj]
    have a1 := k1 k hk
    have a0 := k0 k hk
    have c1 : ((L j).x - (L q).x) * (Ki.y - (K i).y) - ((L j).y - (L q).y) * (Ki.x - (K i).x) ≤ 0 := neg_of_scaled hN (by rw [cross_by]; grind)
    have c0 : ((L j).x - (L q).x) * ((K p).y - (K i).y) - ((L j).y - (L q).y) * ((K p).x - (K i).x) ≤ 0 := neg_of_scaled hN (by rw [cross_by]; grind)
    have cv : ((L j).x - (L q).x) * ((K i).y - (L j).y) - ((L j).y - (L q).y) * ((K i).x - (L j).x) ≤ 0 := neg_of_scaled hN (by rw [cross_by]; grind)
    have := in_cone (f1x := Ki.x - (K i).x) (f1y := Ki.y - (K i).y) (f0x := (K p).x - (K i).x) (f0y := (K p).y - (K i).y) (ux := (K k).x - (K i).x) (uy := (K k).y - (K i).y) kc (by grind) (by grind) c1 c0
    grind
end Go.Proofs.YtebkhdhhajjhfaaGreat

/- Poses: what follows what, in lowest terms, and how large. Plain Lean. -/
namespace Go.Proofs.YtebkhdhhajjhfaaGreat
/-- A hinge: two places and an angle. -/
structure Hg where
  a : Sp
  b : Sp
  ang : Int
  deriving DecidableEq
/-- A pose. -/
structure Ps where
  p : Int
  q : Int
  x : Int
  y : Int
  d : Int
  deriving DecidableEq
/-- The angles: P, Q, R of each. -/
def turns : List (Int × Int × Int) := [(-1, 0, 1), (0, -1, 1), (0, 1, 1), (1, 0, 1), (-4, -3, 5), (-4, 3, 5), (-3, -4, 5), (-3, 4, 5), (3, -4, 5), (3, 4, 5), (4, -3, 5), (4, 3, 5),
  (-12, -5, 13), (-12, 5, 13), (-5, -12, 13), (-5, 12, 13), (5, -12, 13), (5, 12, 13), (12, -5, 13), (12, 5, 13),
  (-15, -8, 17), (-15, 8, 17), (-8, -15, 17), (-8, 15, 17), (8, -15, 17), (8, 15, 17), (15, -8, 17), (15, 8, 17),
  (-24, -7, 25), (-24, 7, 25), (-7, -24, 25), (-7, 24, 25), (7, -24, 25), (7, 24, 25), (24, -7, 25), (24, 7, 25)]
def trn (n : Nat) : Int × Int × Int := turns.getD n (1, 0, 1)
/-- Where a place of a panel with a pose is, times D. -/
def plc (p : Ps) (s : Sp) : Sp := ⟨p.p * s.x - p.q * s.y + p.x, p.q * s.x + p.p * s.y + p.y⟩
def g5 (p : Ps) : Nat := Nat.gcd (Nat.gcd (Nat.gcd (Nat.gcd p.p.natAbs p.q.natAbs) p.x.natAbs) p.y.natAbs) p.d.natAbs
/-- The next pose, before it is divided. -/
def raw (p : Ps) (h : Hg) (t : Int × Int × Int) : Ps :=
  let o : Ps := ⟨t.1 * p.p - t.2.1 * p.q, t.2.1 * p.p + t.1 * p.q, 0, 0, t.2.2 * p.d⟩
  ⟨o.p, o.q, t.2.2 * (plc p h.a).x - (plc o h.b).x, t.2.2 * (plc p h.a).y - (plc o h.b).y, o.d⟩
def low (p : Ps) : Ps := ⟨p.p / (g5 p : Int), p.q / (g5 p : Int), p.x / (g5 p : Int), p.y / (g5 p : Int), p.d / (g5 p : Int)⟩
def flw (p : Ps) (h : Hg) (t : Int × Int × Int) : Ps := low (raw p h t)
def pose0 : Ps := ⟨1, 0, 0, 0, 1⟩
def hg0 : Hg := ⟨⟨0, 0⟩, ⟨0, 0⟩, 0⟩
/-- The poses of a linkage, panel by panel. -/
def posF (hs : List Hg) : Nat → Ps
  | 0 => pose0
  | k + 1 => flw (posF hs k) (hs.getD k hg0) (trn (hs.getD k hg0).ang.toNat)
def spotB (s : Sp) : Prop := (-50 ≤ s.x ∧ s.x ≤ 50) ∧ -50 ≤ s.y ∧ s.y ≤ 50
instance (s : Sp) : Decidable (spotB s) := by unfold spotB; infer_instance
def hingeB (h : Hg) : Prop := spotB h.a ∧ spotB h.b ∧ 0 ≤ h.ang ∧ h.ang ≤ 35
instance (h : Hg) : Decidable (hingeB h) := by unfold hingeB; infer_instance
/-- What holds of a pose behind k hinges. -/
structure PoseOk (p : Ps) (k : Nat) : Prop where
  d0 : 0 < p.d
  d1 : p.d ≤ 25 ^ k
  pq : p.p * p.p + p.q * p.q = p.d * p.d
  x0 : -(200 * k * p.d) ≤ p.x
  x1 : p.x ≤ 200 * k * p.d
  y0 : -(200 * k * p.d) ≤ p.y
  y1 : p.y ≤ 200 * k * p.d
theorem turns_ok : ∀ n : Nat, n < 36 → 1 ≤ (trn n).2.2 ∧ (trn n).2.2 ≤ 25 ∧ (trn n).1 * (trn n).1 + (trn n).2.1 * (trn n).2.1 = (trn n).2.2 * (trn n).2.2 := by decide
theorem abs_le_of_sq {p q d : Int} (hd : 0 < d) (h : p * p + q * q = d * d) : -d ≤ p ∧ p ≤ d ∧ -d ≤ q ∧ q ≤ d := by
  have sq : ∀ a b : Int, a * a + b * b = d * d → a ≤ d := fun a b h => by
    rcases Int.lt_or_le d a with h0 | h0
    · have h1 : d * d < a * a := Int.mul_lt_mul h0 (by omega) hd (by omega)
      have h2 : 0 ≤ b * b := by
        rcases Int.le_total 0 b with hb | hb
        · exact Int.mul_nonneg hb hb
        · exact Int.mul_nonneg_of_nonpos_of_nonpos hb hb
      omega
    · exact h0
  have a1 := sq p q h
  have a2 := sq (-p) q (by grind)
  have a3 := sq q p (by grind)
  have a4 := sq (-q) p (by grind)
  omega
theorem PoseOk.le {p : Ps} {k : Nat} (h : PoseOk p k) : -p.d ≤ p.p ∧ p.p ≤ p.d ∧ -p.d ≤ p.q ∧ p.q ≤ p.d := abs_le_of_sq h.d0 h.pq
theorem prod_le {a d s m : Int} (h1 : -d ≤ a) (h2 : a ≤ d) (h3 : -m ≤ s) (h4 : s ≤ m) : -(d * m) ≤ a * s ∧ a * s ≤ d * m := by
  have a1 : 0 ≤ (d - a) * (m + s) := Int.mul_nonneg (by omega) (by omega)
  have a2 : 0 ≤ (d + a) * (m - s) := Int.mul_nonneg (by omega) (by omega)
  have a3 : 0 ≤ (d + a) * (m + s) := Int.mul_nonneg (by omega) (by omega)
  have a4 : 0 ≤ (d - a) * (m - s) := Int.mul_nonneg (by omega) (by omega)
  constructor <;> grind
theorem PoseOk.plc {p : Ps} {k : Nat} (h : PoseOk p k) {s : Sp} (hs : spotB s) : -((200 * k + 100) * p.d) ≤ (plc p s).x ∧ (plc p s).x ≤ (200 * k + 100) * p.d ∧ -((200 * k + 100) * p.d) ≤ (plc p s).y ∧ (plc p s).y ≤ (200 * k + 100) * p.d := by
  obtain ⟨a1, a2, a3, a4⟩ := h.le
  have h1 := prod_le a1 a2 hs.1.1 hs.1.2
  have h2 := prod_le a3 a4 hs.2.1 hs.2.2
  have h3 := prod_le a3 a4 hs.1.1 hs.1.2
  have h4 := prod_le a1 a2 hs.2.1 hs.2.2
  have := h.x0
  have := h.x1
  have := h.y0
  have := h.y1
  unfold YtebkhdhhajjhfaaGreat.plc
  simp only [Int.add_mul]
  omega
theorem low_eq (p : Ps) : p.p = (g5 p : Int) * (low p).p ∧ p.q = (g5 p : Int) * (low p).q ∧ p.x = (g5 p : Int) * (low p).x ∧ p.y = (g5 p : Int) * (low p).y ∧ p.d = (g5 p : Int) * (low p).d := by
  have e1 : (g5 p : Int) ∣ p.p := Int.ofNat_dvd_left.2 (Nat.dvd_trans (Nat.gcd_dvd_left ..) (Nat.dvd_trans (Nat.gcd_dvd_left ..) (Nat.dvd_trans (Nat.gcd_dvd_left ..) (Nat.gcd_dvd_left ..))))
  have e2 : (g5 p : Int) ∣ p.q := Int.ofNat_dvd_left.2 (Nat.dvd_trans (Nat.gcd_dvd_left ..) (Nat.dvd_trans (Nat.gcd_dvd_left ..) (Nat.dvd_trans (Nat.gcd_dvd_left ..) (Nat.gcd_dvd_right ..))))
  have e3 : (g5 p : Int) ∣ p.x := Int.ofNat_dvd_left.2 (Nat.dvd_trans (Nat.gcd_dvd_left ..) (Nat.dvd_trans (Nat.gcd_dvd_left ..) (Nat.gcd_dvd_right ..)))
  have e4 : (g5 p : Int) ∣ p.y := Int.ofNat_dvd_left.2 (Nat.dvd_trans (Nat.gcd_dvd_left ..) (Nat.gcd_dvd_right ..))
  have e5 : (g5 p : Int) ∣ p.d := Int.ofNat_dvd_left.2 (Nat.gcd_dvd_right ..)
  unfold low
  exact ⟨(Int.mul_ediv_cancel' e1).symm, (Int.mul_ediv_cancel' e2).symm, (Int.mul_ediv_cancel' e3).symm, (Int.mul_ediv_cancel' e4).symm, (Int.mul_ediv_cancel' e5).symm⟩
theorem g5_pos {p : Ps} (h : 0 < p.d) : 0 < (g5 p : Int) := by
  have : 0 < g5 p := Nat.gcd_pos_of_pos_right _ (by omega)
  omega
theorem le_cancel {t a b : Int} (ht : 0 < t) (h : t * a ≤ t * b) : a ≤ b := Int.le_of_mul_le_mul_left h ht
theorem PoseOk.low {p : Ps} {k : Nat} (h : PoseOk p k) : PoseOk (low p) k := by
  obtain ⟨e1, e2, e3, e4, e5⟩ := low_eq p
  have hg := g5_pos h.d0
  have hd : 0 < (YtebkhdhhajjhfaaGreat.low p).d := by
    rcases Int.lt_or_le 0 (YtebkhdhhajjhfaaGreat.low p).d with h0 | h0
    · exact h0
    · have := Int.mul_nonneg (Int.le_of_lt hg) (show 0 ≤ -(YtebkhdhhajjhfaaGreat.low p).d by omega)
      have := h.d0
      rw [Int.mul_neg] at *
      omega
  have hpq := h.pq
  have hx0 := h.x0
  have hx1 := h.x1
  have hy0 := h.y0
  have hy1 := h.y1
  have hd1 := h.d1
  rw [e1, e2, e5] at hpq
  rw [e3, e5] at hx0 hx1
  rw [e4, e5] at hy0 hy1
  rw [e5] at hd1
  generalize YtebkhdhhajjhfaaGreat.low p = r at *
  generalize (g5 p : Int) = g at *
  refine ⟨hd, ?_, ?_, ?_, ?_, ?_, ?_⟩
  · have : 0 ≤ (g - 1) * r.d := Int.mul_nonneg (by omega) (by omega)
    rw [Int.sub_mul] at this
    omega
  · have hgg : 0 < g * g := Int.mul_pos hg hg
    refine Int.eq_of_mul_eq_mul_left (a := g * g) (by omega) ?_
    grind
  · exact le_cancel hg (by grind)
  · exact le_cancel hg (by grind)
  · exact le_cancel hg (by grind)
  · exact le_cancel hg (by grind)
theorem raw_ok {p : Ps} {k : Nat} (h : PoseOk p k) {hg : Hg} (hh : hingeB hg) {n : Nat} (hn : n < 36) : PoseOk (raw p hg (trn n)) (k + 1) := by
  obtain ⟨t1, t2, t3⟩ := turns_ok n hn
  generalize trn n = t at *
  obtain ⟨ta, tb, tr⟩ := t
  simp only at t1 t2 t3
  obtain ⟨c1, c2, c3, c4⟩ := h.plc hh.1
  have ho : PoseOk ⟨ta * p.p - tb * p.q, tb * p.p + ta * p.q, 0, 0, tr * p.d⟩ (k + 1) := by
    have hd : 0 < tr * p.d := Int.mul_pos (by omega) h.d0
    have hk : 0 ≤ 200 * ((k + 1 : Nat) : Int) * (tr * p.d) := Int.mul_nonneg (by omega) (by omega)
    refine ⟨hd, ?_, ?_, ?_, ?_, ?_, ?_⟩
    · have h1 := h.d1
      have h2 : (25 : Int) ^ (k + 1) = 25 * 25 ^ k := by rw [Int.pow_succ]; omega
      simp only
      rw [h2]
      exact Int.mul_le_mul t2 h1 (Int.le_of_lt h.d0) (by omega)
    · have := h.pq
      simp only
      have e : (ta * p.p - tb * p.q) * (ta * p.p - tb * p.q) + (tb * p.p + ta * p.q) * (tb * p.p + ta * p.q) = (ta * ta + tb * tb) * (p.p * p.p + p.q * p.q) := by grind
      rw [e, t3, this]
      grind
    all_goals simp only; omega
  obtain ⟨a1, a2, a3, a4⟩ := ho.le
  simp only at a1 a2 a3 a4
  have h1 := prod_le a1 a2 hh.2.1.1.1 hh.2.1.1.2
  have h2 := prod_le a3 a4 hh.2.1.2.1 hh.2.1.2.2
  have h3 := prod_le a3 a4 hh.2.1.1.1 hh.2.1.1.2
  have h4 := prod_le a1 a2 hh.2.1.2.1 hh.2.1.2.2
  have m1 := Int.mul_le_mul_of_nonneg_left c2 (show 0 ≤ tr by omega)
  have m2 := Int.mul_le_mul_of_nonneg_left c1 (show 0 ≤ tr by omega)
  have m3 := Int.mul_le_mul_of_nonneg_left c4 (show 0 ≤ tr by omega)
  have m4 := Int.mul_le_mul_of_nonneg_left c3 (show 0 ≤ tr by omega)
  have ek : 200 * ((k + 1 : Nat) : Int) * (tr * p.d) = tr * ((200 * k + 100) * p.d) + 100 * (tr * p.d) := by grind
  have hd := ho.d0
  refine ⟨ho.d0, ho.d1, ho.pq, ?_, ?_, ?_, ?_⟩ <;> simp only [raw, YtebkhdhhajjhfaaGreat.plc, ek] at * <;> grind
theorem flw_ok {p : Ps} {k : Nat} (h : PoseOk p k) {hg : Hg} (hh : hingeB hg) {n : Nat} (hn : n < 36) : PoseOk (flw p hg (trn n)) (k + 1) := (raw_ok h hh hn).low
theorem pose0_ok : PoseOk pose0 0 := by
  refine ⟨?_, ?_, ?_, ?_, ?_, ?_, ?_⟩ <;> decide
theorem posF_ok {hs : List Hg} (hh : ∀ h ∈ hs, hingeB h) : ∀ k, k ≤ hs.length → PoseOk (posF hs k) k
  | 0, _ => pose0_ok
  | k + 1, hk => by
    have e : hs.getD k hg0 = hs[k] := by simp [List.getD, List.getElem?_eq_getElem (show k < hs.length by omega)]
    have hb := hh _ (List.getElem_mem (show k < hs.length by omega))
    rw [posF, e]
    exact flw_ok (posF_ok hh k (by omega)) hb (by have := hb.2.2; omega)
end Go.Proofs.YtebkhdhhajjhfaaGreat

/- Panels apart: lines of edges, lines between, a corner less. Plain Lean. -/
namespace Go.Proofs.YtebkhdhhajjhfaaGreat
def s0 : Sp := ⟨0, 0⟩
/-- Above 0 if c / e is to the left of the edge from a / d to b / d. -/
def sideS (a b : Sp) (d : Int) (c : Sp) (e : Int) : Int := (b.x - a.x) * (c.y * d - a.y * e) - (b.y - a.y) * (c.x * d - a.x * e)
/-- An edge of K / d has all of L / e on its line or to the right. -/
def Ptd (K : Nat → Sp) (n : Nat) (d : Int) (L : Nat → Sp) (m : Nat) (e : Int) : Prop := ∃ i, i < n ∧ ∀ j, j < m → sideS (K i) (K ((i + 1) % n)) d (L j) e ≤ 0
def scl (t : Int) (s : Sp) : Sp := ⟨t * s.x, t * s.y⟩
theorem sd_scl (a b c : Sp) (d e : Int) : sd (scl e a) (scl e b) (scl d c) = e * sideS a b d c e := by unfold sd scl sideS; grind
theorem sd_scl1 (a b c : Sp) (e : Int) : sd (scl e a) (scl e b) (scl e c) = (e * e) * sd a b c := by unfold sd scl; grind
theorem Cvx.scl {K : Nat → Sp} {n : Nat} (h : Cvx K n) {e : Int} (he : 0 < e) : Cvx (fun i => scl e (K i)) n := ⟨h.1, fun i k hi hk h1 h2 => by
  simp only
  rw [sd_scl1]
  exact Int.mul_pos (Int.mul_pos he he) (h.2 i k hi hk h1 h2)⟩
theorem le_scl {t z : Int} (ht : 0 < t) : t * z ≤ 0 ↔ z ≤ 0 := ⟨fun h => neg_of_scaled ht h, fun h => by
  have := Int.mul_nonneg (Int.le_of_lt ht) (show 0 ≤ -z by omega)
  rw [Int.mul_neg] at this
  omega⟩
theorem prt_scl {K L : Nat → Sp} {n m : Nat} {d e : Int} (he : 0 < e) : Prt (fun i => scl e (K i)) n (fun j => scl d (L j)) m ↔ Ptd K n d L m e := by
  unfold Prt Ptd
  simp only [sd_scl, le_scl he]
/-- Edges are enough as lines, with numbers to divide by. -/
theorem sep_d {K L : Nat → Sp} {n m : Nat} {d e : Int} (hK : Cvx K n) (hL : Cvx L m) (hd : 0 < d) (he : 0 < e) {A B : Int} (hAB : ¬ (A = 0 ∧ B = 0))
    (h : ∀ k l, k < n → l < m → (A * (K k).x + B * (K k).y) * e ≤ (A * (L l).x + B * (L l).y) * d) : Ptd K n d L m e ∨ Ptd L m e K n d := by
  rw [← prt_scl he, ← prt_scl hd]
  refine sep (hK.scl he) (hL.scl hd) hAB fun k l hk hl => ?_
  have := h k l hk hl
  simp only [scl]
  grind
/-- A line that is between. -/
def Btw (A B C E : Int) (K : Nat → Sp) (n : Nat) (d : Int) (L : Nat → Sp) (m : Nat) (e : Int) : Prop :=
  (∀ k, k < n → E * (A * (K k).x + B * (K k).y) ≤ C * d) ∧ ∀ l, l < m → C * e ≤ E * (A * (L l).x + B * (L l).y)
theorem Btw.sep {K L : Nat → Sp} {n m : Nat} {d e A B C E : Int} (h : Btw A B C E K n d L m e) (hE : 0 < E) (hd : 0 < d) (he : 0 < e) (k l : Nat) (hk : k < n) (hl : l < m) :
    (A * (K k).x + B * (K k).y) * e ≤ (A * (L l).x + B * (L l).y) * d := by
  have h1 := Int.mul_le_mul_of_nonneg_left (h.1 k hk) (Int.le_of_lt he)
  have h2 := Int.mul_le_mul_of_nonneg_left (h.2 l hl) (Int.le_of_lt hd)
  refine le_cancel hE ?_
  grind
theorem Btw.ptd {K L : Nat → Sp} {n m : Nat} {d e A B C E : Int} (h : Btw A B C E K n d L m e) (hK : Cvx K n) (hL : Cvx L m) (hE : 0 < E) (hd : 0 < d) (he : 0 < e) (hAB : ¬ (A = 0 ∧ B = 0)) : Ptd K n d L m e ∨ Ptd L m e K n d :=
  sep_d hK hL hd he hAB fun k l hk hl => h.sep hE hd he k l hk hl
/-- The line of an edge of K is between. -/
theorem btw_edge {K L : Nat → Sp} {n m : Nat} {d e : Int} (hK : Cvx K n) (hd : 0 < d) {i : Nat} (hi : i < n) (h : ∀ j, j < m → sideS (K i) (K ((i + 1) % n)) d (L j) e ≤ 0) :
    Btw ((K ((i + 1) % n)).y - (K i).y) ((K i).x - (K ((i + 1) % n)).x) (((K ((i + 1) % n)).y - (K i).y) * (K i).x + ((K i).x - (K ((i + 1) % n)).x) * (K i).y) d K n d L m e := by
  refine ⟨fun k hk => ?_, fun l hl => ?_⟩
  · have h1 := Int.mul_nonneg (Int.le_of_lt hd) (hK.ge hi hk)
    unfold sd at h1
    grind
  · have h1 := h l hl
    unfold sideS at h1
    grind
theorem btw_edge2 {K L : Nat → Sp} {n m : Nat} {d e : Int} (hK : Cvx K n) (hd : 0 < d) {i : Nat} (hi : i < n) (h : ∀ j, j < m → sideS (K i) (K ((i + 1) % n)) d (L j) e ≤ 0) :
    Btw (-((K ((i + 1) % n)).y - (K i).y)) (-((K i).x - (K ((i + 1) % n)).x)) (-((K ((i + 1) % n)).y - (K i).y) * (K i).x + -((K i).x - (K ((i + 1) % n)).x) * (K i).y) d L m e K n d := by
  refine ⟨fun l hl => ?_, fun k hk => ?_⟩
  · have h1 := h l hl
    unfold sideS at h1
    grind
  · have h1 := Int.mul_nonneg (Int.le_of_lt hd) (hK.ge hi hk)
    unfold sd at h1
    grind
/-- The ends of an edge are two places. -/
theorem edge_ne {K : Nat → Sp} {n : Nat} (hK : Cvx K n) {i : Nat} (hi : i < n) : ¬ ((K ((i + 1) % n)).y - (K i).y = 0 ∧ (K i).x - (K ((i + 1) % n)).x = 0) := by
  rintro ⟨h1, h2⟩
  obtain ⟨p, hp, hpi, hp1, hp2⟩ := before hK.1 hi
  have := hK.2 i p hi hp hp1 hp2
  unfold sd at this
  rw [h1, show (K ((i + 1) % n)).x - (K i).x = 0 by omega] at this
  simp at this
/-- Posed panels are convex. -/
theorem sd_plc (p : Ps) (a b c : Sp) : sd (plc p a) (plc p b) (plc p c) = (p.p * p.p + p.q * p.q) * sd a b c := by unfold sd plc; grind
theorem Cvx.plc {K : Nat → Sp} {n : Nat} (h : Cvx K n) {p : Ps} {k : Nat} (hp : PoseOk p k) : Cvx (fun i => plc p (K i)) n := ⟨h.1, fun i k hi hk h1 h2 => by
  simp only
  rw [sd_plc, hp.pq]
  exact Int.mul_pos (Int.mul_pos hp.d0 hp.d0) (h.2 i k hi hk h1 h2)⟩
end Go.Proofs.YtebkhdhhajjhfaaGreat

/- Loops that close: the first angles. Plain Lean. -/
namespace Go.Proofs.YtebkhdhhajjhfaaGreat
end Go.Proofs.YtebkhdhhajjhfaaGreat

/- Panels and linkages that are valid; how large the numbers are. Plain Lean. -/
namespace Go.Proofs.YtebkhdhhajjhfaaGreat
/-- A corner: a place, to be divided by a number. -/
structure Cn where
  at_ : Sp
  d : Int
  deriving DecidableEq
def ptA (p : List Sp) (i : Nat) : Sp := p.getD i s0
theorem ptA_at {p : List Sp} {i : Nat} (h : i < p.length) : ptA p i = p[i] := by simp [ptA, List.getD, h]
def cvxAt (p : List Sp) (i k : Nat) : Prop := k ≠ i → k ≠ (i + 1) % p.length → 0 < sd (ptA p i) (ptA p ((i + 1) % p.length)) (ptA p k)
instance (p : List Sp) (i k : Nat) : Decidable (cvxAt p i k) := by unfold cvxAt; infer_instance
def panelP (p : List Sp) : Prop := (3 ≤ p.length ∧ p.length ≤ 8) ∧ (∀ s ∈ p, spotB s) ∧ ∀ i, i < p.length → ∀ k, k < p.length → cvxAt p i k
instance (p : List Sp) : Decidable (panelP p) := by unfold panelP; infer_instance
def panelB (p : List Sp) : Bool := decide (panelP p)
theorem panelP.cvx {p : List Sp} (h : panelP p) : Cvx (ptA p) p.length := ⟨h.1.1, fun i k hi hk h1 h2 => h.2.2 i hi k hk h1 h2⟩
theorem panelP.spot {p : List Sp} (h : panelP p) {i : Nat} (hi : i < p.length) : spotB (ptA p i) := by rw [ptA_at hi]; exact h.2.1 _ (List.getElem_mem hi)
def linkP (ps : List (List Sp)) (hs : List Hg) : Prop := (1 ≤ ps.length ∧ ps.length ≤ 4) ∧ hs.length + 1 = ps.length ∧ (∀ p ∈ ps, panelP p) ∧ ∀ h ∈ hs, hingeB h
instance (ps : List (List Sp)) (hs : List Hg) : Decidable (linkP ps hs) := by unfold linkP; infer_instance
def linkB (ps : List (List Sp)) (hs : List Hg) : Bool := decide (linkP ps hs)
def checkE (ps : List (List Sp)) (hs : List Hg) : Int := if linkB ps hs = true then 0 else 50
def posesL (hs : List Hg) : List Ps := (List.range (hs.length + 1)).map (posF hs)
def crn (p : Ps) (panel : List Sp) : List Cn := panel.map fun s => ⟨plc p s, p.d⟩
theorem posesL_len (hs : List Hg) : (posesL hs).length = hs.length + 1 := by simp [posesL]
theorem posesL_at {hs : List Hg} {k : Nat} (h : k < (posesL hs).length) : (posesL hs)[k] = posF hs k := by simp [posesL]
theorem crn_len (p : Ps) (panel : List Sp) : (crn p panel).length = panel.length := by simp [crn]
theorem crn_at {p : Ps} {panel : List Sp} {k : Nat} (h : k < (crn p panel).length) : (crn p panel)[k] = ⟨plc p (ptA panel k), p.d⟩ := by
  have h' : k < panel.length := by simpa [crn] using h
  rw [ptA_at h']
  simp [crn]
/-! ### How large -/
theorem pose_mono {p : Ps} {k m : Nat} (h : PoseOk p k) (hk : k ≤ m) : PoseOk p m := by
  have hd := h.d0
  have hm : 200 * (k : Int) * p.d ≤ 200 * (m : Int) * p.d := Int.mul_le_mul_of_nonneg_right (by omega) (by omega)
  have hp : (25 : Int) ^ k ≤ 25 ^ m := by
    have := Nat.pow_le_pow_right (n := 25) (by omega) hk
    exact_mod_cast this
  have := h.d1
  have := h.x0
  have := h.x1
  have := h.y0
  have := h.y1
  exact ⟨h.d0, by omega, h.pq, by omega, by omega, by omega, by omega⟩
/-- The numbers of a place of a panel. -/
theorem pose_small {p : Ps} (h : PoseOk p 3) : (1 ≤ p.d ∧ p.d ≤ 15625) ∧ (-15625 ≤ p.p ∧ p.p ≤ 15625) ∧ (-15625 ≤ p.q ∧ p.q ≤ 15625) ∧ (-9375000 ≤ p.x ∧ p.x ≤ 9375000) ∧ (-9375000 ≤ p.y ∧ p.y ≤ 9375000) := by
  have h1 := h.d0
  have h2 : p.d ≤ 25 ^ 3 := h.d1
  have := h.le
  have := h.x0
  have := h.x1
  have := h.y0
  have := h.y1
  omega
theorem plc_small {p : Ps} (h : PoseOk p 3) {s : Sp} (hs : spotB s) : (-10937500 ≤ (plc p s).x ∧ (plc p s).x ≤ 10937500) ∧ (-10937500 ≤ (plc p s).y ∧ (plc p s).y ≤ 10937500) := by
  have h1 := h.d0
  have h2 : p.d ≤ 25 ^ 3 := h.d1
  have := h.plc hs
  omega
theorem edge_small {p : Ps} (h : PoseOk p 3) {s t : Sp} (hs : spotB s) (ht : spotB t) : (-3125000 ≤ (plc p t).x - (plc p s).x ∧ (plc p t).x - (plc p s).x ≤ 3125000) ∧ (-3125000 ≤ (plc p t).y - (plc p s).y ∧ (plc p t).y - (plc p s).y ≤ 3125000) := by
  obtain ⟨⟨d1, d2⟩, ⟨p1, p2⟩, ⟨q1, q2⟩, _, _⟩ := pose_small h
  obtain ⟨⟨s1, s2⟩, s3, s4⟩ := hs
  obtain ⟨⟨t1, t2⟩, t3, t4⟩ := ht
  have e1 := prod_le (a := p.p) (d := 15625) (s := t.x - s.x) (m := 100) (by omega) (by omega) (by omega) (by omega)
  have e2 := prod_le (a := p.p) (d := 15625) (s := t.y - s.y) (m := 100) (by omega) (by omega) (by omega) (by omega)
  have e3 := prod_le (a := p.q) (d := 15625) (s := t.x - s.x) (m := 100) (by omega) (by omega) (by omega) (by omega)
  have e4 := prod_le (a := p.q) (d := 15625) (s := t.y - s.y) (m := 100) (by omega) (by omega) (by omega) (by omega)
  rw [Int.mul_sub] at e1 e2 e3 e4
  unfold plc
  simp only
  omega
theorem side_fit {ax ay bx bY cx cy d e : Int} (hd : 1 ≤ d ∧ d ≤ 15625) (he : 1 ≤ e ∧ e ≤ 15625) (hax : -10937500 ≤ ax ∧ ax ≤ 10937500) (hay : -10937500 ≤ ay ∧ ay ≤ 10937500) (hcx : -10937500 ≤ cx ∧ cx ≤ 10937500) (hcy : -10937500 ≤ cy ∧ cy ≤ 10937500)
    (hu : -3125000 ≤ bx - ax ∧ bx - ax ≤ 3125000) (hv : -3125000 ≤ bY - ay ∧ bY - ay ≤ 3125000) :
    (-170898437500 ≤ cy * d ∧ cy * d ≤ 170898437500) ∧ (-170898437500 ≤ ay * e ∧ ay * e ≤ 170898437500) ∧ (-170898437500 ≤ cx * d ∧ cx * d ≤ 170898437500) ∧ (-170898437500 ≤ ax * e ∧ ax * e ≤ 170898437500) ∧
    (-1068115234375000000 ≤ (bx - ax) * (cy * d - ay * e) ∧ (bx - ax) * (cy * d - ay * e) ≤ 1068115234375000000) ∧ (-1068115234375000000 ≤ (bY - ay) * (cx * d - ax * e) ∧ (bY - ay) * (cx * d - ax * e) ≤ 1068115234375000000) := by
  have e1 := prod_le (a := cy) (d := 10937500) (s := d) (m := 15625) (by omega) (by omega) (by omega) (by omega)
  have e2 := prod_le (a := ay) (d := 10937500) (s := e) (m := 15625) (by omega) (by omega) (by omega) (by omega)
  have e3 := prod_le (a := cx) (d := 10937500) (s := d) (m := 15625) (by omega) (by omega) (by omega) (by omega)
  have e4 := prod_le (a := ax) (d := 10937500) (s := e) (m := 15625) (by omega) (by omega) (by omega) (by omega)
  have e5 := prod_le (a := bx - ax) (d := 3125000) (s := cy * d - ay * e) (m := 341796875000) (by omega) (by omega) (by omega) (by omega)
  have e6 := prod_le (a := bY - ay) (d := 3125000) (s := cx * d - ax * e) (m := 341796875000) (by omega) (by omega) (by omega) (by omega)
  simp only [Int.reduceMul] at e1 e2 e3 e4 e5 e6
  exact ⟨e1, e2, e3, e4, e5, e6⟩
/-- Corners whose numbers are small; the first two are those of an edge. -/
structure CnOk (c : Cn) : Prop where
  d : 1 ≤ c.d ∧ c.d ≤ 15625
  x : -10937500 ≤ c.at_.x ∧ c.at_.x ≤ 10937500
  y : -10937500 ≤ c.at_.y ∧ c.at_.y ≤ 10937500
structure EdgeOk (a b : Cn) : Prop where
  ca : CnOk a
  cb : CnOk b
  x : -3125000 ≤ b.at_.x - a.at_.x ∧ b.at_.x - a.at_.x ≤ 3125000
  y : -3125000 ≤ b.at_.y - a.at_.y ∧ b.at_.y - a.at_.y ≤ 3125000
  d : b.d = a.d
def sideC (a b c : Cn) : Int := sideS a.at_ b.at_ a.d c.at_ c.d
/-- All edges and corners of a list. -/
structure CnsOk (l : List Cn) : Prop where
  len : 3 ≤ l.length ∧ l.length ≤ 8
  ok : ∀ i (hi : i < l.length) k (hk : k < l.length), EdgeOk l[i] l[k]
theorem crn_ok {p : Ps} {panel : List Sp} (hp : PoseOk p 3) (hq : panelP panel) : CnsOk (crn p panel) := by
  have hc : ∀ s, spotB s → CnOk ⟨plc p s, p.d⟩ := fun s hs => ⟨(pose_small hp).1, (plc_small hp hs).1, (plc_small hp hs).2⟩
  refine ⟨by rw [crn_len]; exact hq.1, fun i hi k hk => ?_⟩
  rw [crn_at hi, crn_at hk]
  rw [crn_len] at hi hk
  exact ⟨hc _ (hq.spot hi), hc _ (hq.spot hk), (edge_small hp (hq.spot hi) (hq.spot hk)).1, (edge_small hp (hq.spot hi) (hq.spot hk)).2, rfl⟩
theorem link_pose {ps : List (List Sp)} {hs : List Hg} (h : linkP ps hs) {k : Nat} (hk : k < ps.length) : PoseOk (posF hs k) 3 := by
  have h1 := h.1.2
  have h2 := h.2.1
  exact pose_mono (posF_ok h.2.2.2 k (by omega)) (by omega)
end Go.Proofs.YtebkhdhhajjhfaaGreat

/- Proofs of clashes and of lines between. Plain Lean. -/
namespace Go.Proofs.YtebkhdhhajjhfaaGreat
def c0 : Cn := ⟨s0, 1⟩
def cAt (c : List Cn) (i : Nat) : Cn := c.getD i c0
theorem cAt_at {c : List Cn} {i : Nat} (h : i < c.length) : cAt c i = c[i] := by simp [cAt, List.getD, h]
theorem cAt_mem {c : List Cn} {i : Nat} (h : i < c.length) : cAt c i ∈ c := by rw [cAt_at h]; exact List.getElem_mem h
/-- An edge's number for a corner. -/
def eside (c : List Cn) (i : Nat) (o : Cn) : Int := sideC (cAt c i) (cAt c ((i + 1) % c.length)) o
def edgeOut (c other : List Cn) (i : Nat) : Prop := ∀ o ∈ other, eside c i o ≤ 0
instance (c other : List Cn) (i : Nat) : Decidable (edgeOut c other i) := by unfold edgeOut; infer_instance
def partP (c other : List Cn) : Prop := ∃ i, i < c.length ∧ edgeOut c other i
instance (c other : List Cn) : Decidable (partP c other) := by unfold partP; infer_instance
def partB (c other : List Cn) : Bool := decide (partP c other)
def clashB (a b : List Cn) : Bool := !partB a b && !partB b a
theorem eside_crn {p q : Ps} {A : List Sp} {i : Nat} (hi : i < A.length) (b : Sp) : eside (crn p A) i ⟨plc q b, q.d⟩ = sideS (plc p (ptA A i)) (plc p (ptA A ((i + 1) % A.length))) p.d (plc q b) q.d := by
  have h1 : (i + 1) % A.length < A.length := Nat.mod_lt _ (by omega)
  unfold eside sideC
  rw [crn_len, cAt_at (by rw [crn_len]; exact hi), cAt_at (by rw [crn_len]; exact h1), crn_at, crn_at]
theorem edgeOut_crn {p q : Ps} {A B : List Sp} {i : Nat} (hi : i < A.length) : edgeOut (crn p A) (crn q B) i ↔ ∀ j, j < B.length → sideS (plc p (ptA A i)) (plc p (ptA A ((i + 1) % A.length))) p.d (plc q (ptA B j)) q.d ≤ 0 := by
  unfold edgeOut
  constructor
  · intro h j hj
    have := h ⟨plc q (ptA B j), q.d⟩ (List.mem_map.2 ⟨ptA B j, by rw [ptA_at hj]; exact List.getElem_mem hj, rfl⟩)
    rwa [eside_crn hi] at this
  · intro h o ho
    obtain ⟨s, hs, rfl⟩ := List.mem_map.1 ho
    obtain ⟨j, hj, rfl⟩ := List.getElem_of_mem hs
    have := h j hj
    rw [ptA_at hj] at this
    rwa [eside_crn hi]
theorem partP_crn {p q : Ps} {A B : List Sp} : partP (crn p A) (crn q B) ↔ Ptd (fun i => plc p (ptA A i)) A.length p.d (fun j => plc q (ptA B j)) B.length q.d := by
  unfold partP Ptd
  rw [crn_len]
  constructor
  · rintro ⟨i, hi, h⟩
    exact ⟨i, hi, (edgeOut_crn hi).1 h⟩
  · rintro ⟨i, hi, h⟩
    exact ⟨i, hi, (edgeOut_crn hi).2 h⟩
theorem clashB_crn {p q : Ps} {A B : List Sp} : clashB (crn p A) (crn q B) = false ↔ Ptd (fun i => plc p (ptA A i)) A.length p.d (fun j => plc q (ptA B j)) B.length q.d ∨ Ptd (fun j => plc q (ptA B j)) B.length q.d (fun i => plc p (ptA A i)) A.length p.d := by
  rw [← partP_crn, ← partP_crn]
  unfold clashB partB
  by_cases h1 : partP (crn p A) (crn q B) <;> by_cases h2 : partP (crn q B) (crn p A) <;> simp [h1, h2]
/-- A proof of whether two panels clash. -/
structure Apr where
  clear : Bool
  A : Int
  B : Int
  C : Int
  E : Int
  ins : List Int
def lineN (r : Apr) (c : Cn) : Int := r.E * (r.A * c.at_.x + r.B * c.at_.y)
def btwP (r : Apr) (a b : List Cn) : Prop := r.ins.length = 0 ∧ (-10000000 ≤ r.A ∧ r.A ≤ 10000000) ∧ (-10000000 ≤ r.B ∧ r.B ≤ 10000000) ∧ ¬ (r.A = 0 ∧ r.B = 0) ∧ (-100000000000000 ≤ r.C ∧ r.C ≤ 100000000000000) ∧ (1 ≤ r.E ∧ r.E ≤ 20000) ∧
  (∀ c ∈ a, lineN r c ≤ r.C * c.d) ∧ ∀ c ∈ b, r.C * c.d ≤ lineN r c
def inAt (c other : List Cn) (n : Nat) (x : Int) : Prop := 0 ≤ x ∧ x < other.length ∧ 0 < eside c n (cAt other x.toNat)
instance (c other : List Cn) (n : Nat) (x : Int) : Decidable (inAt c other n x) := by unfold inAt; infer_instance
def insP (r : Apr) (a b : List Cn) : Prop := (r.A = 0 ∧ r.B = 0 ∧ r.C = 0 ∧ r.E = 0) ∧ r.ins.length = a.length + b.length ∧ (∀ n, n < a.length → inAt a b n (r.ins.getD n 0)) ∧ ∀ n, n < b.length → inAt b a n (r.ins.getD (a.length + n) 0)
instance (r : Apr) (a b : List Cn) : Decidable (btwP r a b) := by unfold btwP; infer_instance
instance (r : Apr) (a b : List Cn) : Decidable (insP r a b) := by unfold insP; infer_instance
def rightP (r : Apr) (a b : List Cn) : Prop := if r.clear = true then btwP r a b else insP r a b
instance (r : Apr) (a b : List Cn) : Decidable (rightP r a b) := by unfold rightP; infer_instance
def rightB (r : Apr) (a b : List Cn) : Bool := decide (rightP r a b)
theorem inAt_not {c other : List Cn} (h : ∀ n, n < c.length → ∃ x, inAt c other n x) : ¬ partP c other := by
  rintro ⟨i, hi, ho⟩
  obtain ⟨x, h1, h2, h3⟩ := h i hi
  have := ho _ (cAt_mem (c := other) (i := x.toNat) (by omega))
  omega
/-- A right proof tells whether the panels clash. -/
theorem right_tells {p q : Ps} {k m : Nat} {A B : List Sp} {r : Apr} (hp : PoseOk p k) (hq : PoseOk q m) (hA : panelP A) (hB : panelP B) (h : rightP r (crn p A) (crn q B)) : clashB (crn p A) (crn q B) = !r.clear := by
  unfold rightP at h
  cases hc : r.clear
  · rw [if_neg (by simp [hc])] at h
    obtain ⟨_, _, h1, h2⟩ := h
    have n1 := inAt_not fun n hn => ⟨_, h1 n hn⟩
    have n2 := inAt_not fun n hn => ⟨_, h2 n hn⟩
    unfold clashB partB
    simp [n1, n2]
  · rw [if_pos hc] at h
    obtain ⟨_, _, _, hAB, _, hE, h1, h2⟩ := h
    rw [Bool.not_true, clashB_crn]
    refine Btw.ptd (A := r.A) (B := r.B) (C := r.C) (E := r.E) ⟨fun i hi => ?_, fun j hj => ?_⟩ (hA.cvx.plc hp) (hB.cvx.plc hq) (by omega) hp.d0 hq.d0 hAB
    · exact h1 ⟨plc p (ptA A i), p.d⟩ (List.mem_map.2 ⟨ptA A i, by rw [ptA_at hi]; exact List.getElem_mem hi, rfl⟩)
    · exact h2 ⟨plc q (ptA B j), q.d⟩ (List.mem_map.2 ⟨ptA B j, by rw [ptA_at hj]; exact List.getElem_mem hj, rfl⟩)
/-- The line of an edge, as a proof. -/
def thrA (c : List Cn) (i : Nat) (sg : Int) : Apr :=
  let a := cAt c i
  let b := cAt c ((i + 1) % c.length)
  let x := sg * (b.at_.y - a.at_.y)
  let y := sg * (a.at_.x - b.at_.x)
  ⟨true, x, y, x * a.at_.x + y * a.at_.y, a.d, []⟩
theorem thr_ok {c : List Cn} (h : CnsOk c) {i : Nat} (hi : i < c.length) {sg : Int} (hs : sg = 1 ∨ sg = -1) :
    (-3125000 ≤ (thrA c i sg).A ∧ (thrA c i sg).A ≤ 3125000) ∧ (-3125000 ≤ (thrA c i sg).B ∧ (thrA c i sg).B ≤ 3125000) ∧ (-34179687500000 ≤ (thrA c i sg).A * (cAt c i).at_.x ∧ (thrA c i sg).A * (cAt c i).at_.x ≤ 34179687500000) ∧
    (-34179687500000 ≤ (thrA c i sg).B * (cAt c i).at_.y ∧ (thrA c i sg).B * (cAt c i).at_.y ≤ 34179687500000) ∧ (1 ≤ (thrA c i sg).E ∧ (thrA c i sg).E ≤ 15625) := by
  have h1 : (i + 1) % c.length < c.length := Nat.mod_lt _ (by omega)
  have e := h.ok i hi _ h1
  rw [← cAt_at hi, ← cAt_at h1] at e
  have ha := e.ca
  have hx := e.x
  have hy := e.y
  have k1 : -3125000 ≤ (thrA c i sg).A ∧ (thrA c i sg).A ≤ 3125000 := by rcases hs with rfl | rfl <;> simp only [thrA] <;> omega
  have k2 : -3125000 ≤ (thrA c i sg).B ∧ (thrA c i sg).B ≤ 3125000 := by rcases hs with rfl | rfl <;> simp only [thrA] <;> omega
  have k3 := prod_le k1.1 k1.2 ha.x.1 ha.x.2
  have k4 := prod_le k2.1 k2.2 ha.y.1 ha.y.2
  exact ⟨k1, k2, k3, k4, ha.d⟩
theorem thr_right1 {p q : Ps} {A B : List Sp} (hp : PoseOk p 3) (hA : panelP A) {i : Nat} (hi : i < A.length) (h : edgeOut (crn p A) (crn q B) i) : rightP (thrA (crn p A) i 1) (crn p A) (crn q B) := by
  have hi' : i < (crn p A).length := by rw [crn_len]; exact hi
  have h1 : (i + 1) % A.length < A.length := Nat.mod_lt _ (by omega)
  obtain ⟨k1, k2, k3, k4, k5⟩ := thr_ok (crn_ok hp hA) hi' (sg := 1) (.inl rfl)
  have hb := btw_edge (e := q.d) (L := fun j => plc q (ptA B j)) (m := B.length) (hA.cvx.plc hp) hp.d0 hi ((edgeOut_crn hi).1 h)
  have hn := edge_ne (hA.cvx.plc hp) hi
  have eA : cAt (crn p A) i = ⟨plc p (ptA A i), p.d⟩ := by rw [cAt_at hi', crn_at]
  have eB : cAt (crn p A) ((i + 1) % A.length) = ⟨plc p (ptA A ((i + 1) % A.length)), p.d⟩ := by rw [cAt_at (by rw [crn_len]; exact h1), crn_at]
  have eC : (thrA (crn p A) i 1).C = (thrA (crn p A) i 1).A * (cAt (crn p A) i).at_.x + (thrA (crn p A) i 1).B * (cAt (crn p A) i).at_.y := rfl
  have fA : (thrA (crn p A) i 1).A = (plc p (ptA A ((i + 1) % A.length))).y - (plc p (ptA A i)).y := by simp only [thrA, crn_len, eA, eB, Int.one_mul]
  have fB : (thrA (crn p A) i 1).B = (plc p (ptA A i)).x - (plc p (ptA A ((i + 1) % A.length))).x := by simp only [thrA, crn_len, eA, eB, Int.one_mul]
  have fE : (thrA (crn p A) i 1).E = p.d := by simp only [thrA, eA]
  unfold rightP
  rw [if_pos (show (thrA _ _ _).clear = true from rfl)]
  refine ⟨rfl, by omega, by omega, ?_, by omega, by omega, fun c hc => ?_, fun c hc => ?_⟩
  · rw [fA, fB]; exact hn
  · obtain ⟨s, hs, rfl⟩ := List.mem_map.1 hc
    obtain ⟨j, hj, rfl⟩ := List.getElem_of_mem hs
    have := hb.1 j hj
    simp only [ptA_at hj] at this
    unfold lineN
    rw [eC, fE, fA, fB, eA]
    exact this
  · obtain ⟨s, hs, rfl⟩ := List.mem_map.1 hc
    obtain ⟨j, hj, rfl⟩ := List.getElem_of_mem hs
    have := hb.2 j hj
    simp only [ptA_at hj] at this
    unfold lineN
    rw [eC, fE, fA, fB, eA]
    exact this
theorem thr_right2 {p q : Ps} {A B : List Sp} (hp : PoseOk p 3) (hA : panelP A) {i : Nat} (hi : i < A.length) (h : edgeOut (crn p A) (crn q B) i) : rightP (thrA (crn p A) i (-1)) (crn q B) (crn p A) := by
  have hi' : i < (crn p A).length := by rw [crn_len]; exact hi
  have h1 : (i + 1) % A.length < A.length := Nat.mod_lt _ (by omega)
  obtain ⟨k1, k2, k3, k4, k5⟩ := thr_ok (crn_ok hp hA) hi' (sg := -1) (.inr rfl)
  have hb := btw_edge2 (e := q.d) (L := fun j => plc q (ptA B j)) (m := B.length) (hA.cvx.plc hp) hp.d0 hi ((edgeOut_crn hi).1 h)
  have hn := edge_ne (hA.cvx.plc hp) hi
  have eA : cAt (crn p A) i = ⟨plc p (ptA A i), p.d⟩ := by rw [cAt_at hi', crn_at]
  have eB : cAt (crn p A) ((i + 1) % A.length) = ⟨plc p (ptA A ((i + 1) % A.length)), p.d⟩ := by rw [cAt_at (by rw [crn_len]; exact h1), crn_at]
  have eC : (thrA (crn p A) i (-1)).C = (thrA (crn p A) i (-1)).A * (cAt (crn p A) i).at_.x + (thrA (crn p A) i (-1)).B * (cAt (crn p A) i).at_.y := rfl
  have fA : (thrA (crn p A) i (-1)).A = -((plc p (ptA A ((i + 1) % A.length))).y - (plc p (ptA A i)).y) := by simp only [thrA, crn_len, eA, eB, Int.neg_mul, Int.one_mul]
  have fB : (thrA (crn p A) i (-1)).B = -((plc p (ptA A i)).x - (plc p (ptA A ((i + 1) % A.length))).x) := by simp only [thrA, crn_len, eA, eB, Int.neg_mul, Int.one_mul]
  have fE : (thrA (crn p A) i (-1)).E = p.d := by simp only [thrA, eA]
  unfold rightP
  rw [if_pos (show (thrA _ _ _).clear = true from rfl)]
  refine ⟨rfl, by omega, by omega, ?_, by omega, by omega, fun c hc => ?_, fun c hc => ?_⟩
  · rw [fA, fB]
    omega
  · obtain ⟨s, hs, rfl⟩ := List.mem_map.1 hc
    obtain ⟨j, hj, rfl⟩ := List.getElem_of_mem hs
    have := hb.1 j hj
    simp only [ptA_at hj] at this
    unfold lineN
    rw [eC, fE, fA, fB, eA]
    exact this
  · obtain ⟨s, hs, rfl⟩ := List.mem_map.1 hc
    obtain ⟨j, hj, rfl⟩ := List.getElem_of_mem hs
    have := hb.2 j hj
    simp only [ptA_at hj] at this
    unfold lineN
    rw [eC, fE, fA, fB, eA]
    exact this
end Go.Proofs.YtebkhdhhajjhfaaGreat

/- Places, corners, hinges and poses in memory. -/
namespace Go.Proofs.YtebkhdhhajjhfaaGreat
open Go.RowKit
def hgA (l : List Hg) (k : Nat) : Hg := l.getD k hg0
theorem hgA_at {l : List Hg} {k : Nat} (h : k < l.length) : hgA l k = l[k] := by simp [hgA, List.getD, h]
def psA (l : List Ps) (k : Nat) : Ps := l.getD k pose0
theorem psA_at {l : List Ps} {k : Nat} (h : k < l.length) : psA l k = l[k] := by simp [psA, List.getD, h]

def Sp.cells (s : Sp) : List Value := [vint s.x, vint s.y]
abbrev Sp.val (s : Sp) : Value := .agg #[vint s.x, vint s.y]
def SRow (w : World) (A : Option Addr) (l : List Sp) : Prop := Row w A (l.map Sp.cells).flatten
theorem SRow.ext {w w' : World} {A : Option Addr} {l : List Sp} (h : SRow w A l) (he : Ext w w') : SRow w' A l := Row.ext h he
theorem SRow.at_ {w : World} {A : Option Addr} {l : List Sp} (h : SRow w A l) {k : Nat} (hk : k < l.length) :
    ∃ ad, A = some ad ∧ (∀ w', Ext w w' → w'.cell? (ad.add (k * 2)) = some (.int .i64 (ptA l k).x)) ∧
      (∀ w', Ext w w' → w'.cell? ⟨(ad.add (k * 2)).block, (ad.add (k * 2)).off + 1, none⟩ = some (.int .i64 (ptA l k).y)) := by
  rw [ptA_at hk]
  obtain ⟨ad, ha, hc⟩ := Row.struct (size := 2) h (by simp [Sp.cells]) (k := k) (by simpa using hk) (by omega)
  refine ⟨ad, ha, fun w' he => ?_, fun w' he => ?_⟩
  · have := hc 0 (by omega) w' he
    rw [add_zero_] at this
    simpa [Sp.cells] using this
  · have := hc 1 (by omega) w' he
    rw [add_lit _ _ (by omega)] at this
    simpa [Sp.cells] using this

def Cn.cells (s : Cn) : List Value := [vint s.at_.x, vint s.at_.y, vint s.d]
abbrev Cn.val (s : Cn) : Value := .agg #[vint s.at_.x, vint s.at_.y, vint s.d]
def CRow (w : World) (A : Option Addr) (l : List Cn) : Prop := Row w A (l.map Cn.cells).flatten
theorem CRow.ext {w w' : World} {A : Option Addr} {l : List Cn} (h : CRow w A l) (he : Ext w w') : CRow w' A l := Row.ext h he
theorem Cn.cells_len (l : List Cn) : (l.map Cn.cells).flatten.length = l.length * 3 := by
  rw [flatten_len 3 _ (by simp [Cn.cells]), List.length_map]
theorem CRow.at_ {w : World} {A : Option Addr} {l : List Cn} (h : CRow w A l) {k : Nat} (hk : k < l.length) :
    ∃ ad, A = some ad ∧ (∀ w', Ext w w' → w'.cell? (ad.add (k * 3)) = some (.int .i64 (cAt l k).at_.x)) ∧
      (∀ w', Ext w w' → w'.cell? ⟨(ad.add (k * 3)).block, (ad.add (k * 3)).off + 1, none⟩ = some (.int .i64 (cAt l k).at_.y)) ∧
      (∀ w', Ext w w' → w'.cell? ⟨(ad.add (k * 3)).block, (ad.add (k * 3)).off + 2, none⟩ = some (.int .i64 (cAt l k).d)) := by
  rw [cAt_at hk]
  obtain ⟨ad, ha, hc⟩ := Row.struct (size := 3) h (by simp [Cn.cells]) (k := k) (by simpa using hk) (by omega)
  refine ⟨ad, ha, fun w' he => ?_, fun w' he => ?_, fun w' he => ?_⟩
  · have := hc 0 (by omega) w' he
    rw [add_zero_] at this
    simpa [Cn.cells] using this
  · have := hc 1 (by omega) w' he
    rw [add_lit _ _ (by omega)] at this
    simpa [Cn.cells] using this
  · have := hc 2 (by omega) w' he
    rw [add_lit _ _ (by omega)] at this
    simpa [Cn.cells] using this

def Hg.cells (s : Hg) : List Value := [vint s.a.x, vint s.a.y, vint s.b.x, vint s.b.y, vint s.ang]
abbrev Hg.val (s : Hg) : Value := .agg #[vint s.a.x, vint s.a.y, vint s.b.x, vint s.b.y, vint s.ang]
def HRow (w : World) (A : Option Addr) (l : List Hg) : Prop := Row w A (l.map Hg.cells).flatten
theorem HRow.ext {w w' : World} {A : Option Addr} {l : List Hg} (h : HRow w A l) (he : Ext w w') : HRow w' A l := Row.ext h he
theorem HRow.at_ {w : World} {A : Option Addr} {l : List Hg} (h : HRow w A l) {k : Nat} (hk : k < l.length) :
    ∃ ad, A = some ad ∧ (∀ w', Ext w w' → w'.cell? (ad.add (k * 5)) = some (.int .i64 (hgA l k).a.x)) ∧
      (∀ w', Ext w w' → w'.cell? ⟨(ad.add (k * 5)).block, (ad.add (k * 5)).off + 1, none⟩ = some (.int .i64 (hgA l k).a.y)) ∧
      (∀ w', Ext w w' → w'.cell? ⟨(ad.add (k * 5)).block, (ad.add (k * 5)).off + 2, none⟩ = some (.int .i64 (hgA l k).b.x)) ∧
      (∀ w', Ext w w' → w'.cell? ⟨(ad.add (k * 5)).block, (ad.add (k * 5)).off + 3, none⟩ = some (.int .i64 (hgA l k).b.y)) ∧
      (∀ w', Ext w w' → w'.cell? ⟨(ad.add (k * 5)).block, (ad.add (k * 5)).off + 4, none⟩ = some (.int .i64 (hgA l k).ang)) := by
  rw [hgA_at hk]
  obtain ⟨ad, ha, hc⟩ := Row.struct (size := 5) h (by simp [Hg.cells]) (k := k) (by simpa using hk) (by omega)
  refine ⟨ad, ha, fun w' he => ?_, fun w' he => ?_, fun w' he => ?_, fun w' he => ?_, fun w' he => ?_⟩
  · have := hc 0 (by omega) w' he
    rw [add_zero_] at this
    simpa [Hg.cells] using this
  · have := hc 1 (by omega) w' he
    rw [add_lit _ _ (by omega)] at this
    simpa [Hg.cells] using this
  · have := hc 2 (by omega) w' he
    rw [add_lit _ _ (by omega)] at this
    simpa [Hg.cells] using this
  · have := hc 3 (by omega) w' he
    rw [add_lit _ _ (by omega)] at this
    simpa [Hg.cells] using this
  · have := hc 4 (by omega) w' he
    rw [add_lit _ _ (by omega)] at this
    simpa [Hg.cells] using this

def Ps.cells (s : Ps) : List Value := [vint s.p, vint s.q, vint s.x, vint s.y, vint s.d]
abbrev Ps.val (s : Ps) : Value := .agg #[vint s.p, vint s.q, vint s.x, vint s.y, vint s.d]
def PRow (w : World) (A : Option Addr) (l : List Ps) : Prop := Row w A (l.map Ps.cells).flatten
theorem PRow.at_ {w : World} {A : Option Addr} {l : List Ps} (h : PRow w A l) {k : Nat} (hk : k < l.length) :
    ∃ ad, A = some ad ∧ (∀ w', Ext w w' → w'.cell? (ad.add (k * 5)) = some (.int .i64 (psA l k).p)) ∧
      (∀ w', Ext w w' → w'.cell? ⟨(ad.add (k * 5)).block, (ad.add (k * 5)).off + 1, none⟩ = some (.int .i64 (psA l k).q)) ∧
      (∀ w', Ext w w' → w'.cell? ⟨(ad.add (k * 5)).block, (ad.add (k * 5)).off + 2, none⟩ = some (.int .i64 (psA l k).x)) ∧
      (∀ w', Ext w w' → w'.cell? ⟨(ad.add (k * 5)).block, (ad.add (k * 5)).off + 3, none⟩ = some (.int .i64 (psA l k).y)) ∧
      (∀ w', Ext w w' → w'.cell? ⟨(ad.add (k * 5)).block, (ad.add (k * 5)).off + 4, none⟩ = some (.int .i64 (psA l k).d)) := by
  rw [psA_at hk]
  obtain ⟨ad, ha, hc⟩ := Row.struct (size := 5) h (by simp [Ps.cells]) (k := k) (by simpa using hk) (by omega)
  refine ⟨ad, ha, fun w' he => ?_, fun w' he => ?_, fun w' he => ?_, fun w' he => ?_, fun w' he => ?_⟩
  · have := hc 0 (by omega) w' he
    rw [add_zero_] at this
    simpa [Ps.cells] using this
  · have := hc 1 (by omega) w' he
    rw [add_lit _ _ (by omega)] at this
    simpa [Ps.cells] using this
  · have := hc 2 (by omega) w' he
    rw [add_lit _ _ (by omega)] at this
    simpa [Ps.cells] using this
  · have := hc 3 (by omega) w' he
    rw [add_lit _ _ (by omega)] at this
    simpa [Ps.cells] using this
  · have := hc 4 (by omega) w' he
    rw [add_lit _ _ (by omega)] at this
    simpa [Ps.cells] using this

/-- Panels: slices of places. -/
def PnRow (w : World) (A : Option Addr) (ps : List (List Sp)) : Prop := ∀ k (hk : k < ps.length), ∃ ad B c, A = some ad ∧ (∀ w', Ext w w' → w'.cell? (ad.add k) = some (.slice B ps[k].length c)) ∧ SRow w B ps[k]
theorem PnRow.ext {w w' : World} {A : Option Addr} {ps : List (List Sp)} (h : PnRow w A ps) (he : Ext w w') : PnRow w' A ps := fun k hk => by
  obtain ⟨ad, B, c, h1, h2, h3⟩ := h k hk
  exact ⟨ad, B, c, h1, fun w2 h => h2 w2 (he.trans h), h3.ext he⟩
theorem PnRow.nil (w : World) (A : Option Addr) : PnRow w A [] := fun k hk => absurd hk (by simp)
end Go.Proofs.YtebkhdhhajjhfaaGreat

/- Blocks of the call's own, known whole; results that are a variable's cells. -/
namespace Go.Proofs.YtebkhdhhajjhfaaGreat
open Go.RowKit

theorem cell_heap {w : World} {b : Nat} {cs : Array Value} {t : TypeId} (h : w.heap[b]? = some (.cells cs t)) (j : Nat) : w.cell? ⟨b, j, none⟩ = cs[j]? := by
  simp [World.cell?, h]
theorem heap_alloc_new (w : World) (o : Obj) : (w.alloc o).heap[w.heap.size]? = some o := by
  simp only [World.alloc]; exact Array.getElem?_push_size
theorem add_zero' (b k : Nat) : (⟨b, 0, none⟩ : Addr).add k = ⟨b, k, none⟩ := by unfold Addr.add; split <;> simp_all
theorem cell_same' {W : World} {p : Addr} {x : Value} (u : Value) (h : W.cell? p = some u) : (W.setCell p x).cell? p = some x := World.cell?_setCell_same _ _ _ h
theorem cell_far' {W : World} {g j k : Nat} {x : Value} (h : j ≠ k) : (W.setCell ⟨g, j, none⟩ x).cell? ⟨g, k, none⟩ = W.cell? ⟨g, k, none⟩ := World.cell?_setCell_other _ _ _ _ (fun e => by injection e with _ e2 _; exact h e2)
theorem cell_off' {W : World} {g h j k : Nat} {x : Value} (hne : g ≠ h) : (W.setCell ⟨g, j, none⟩ x).cell? ⟨h, k, none⟩ = W.cell? ⟨h, k, none⟩ := World.cell?_setCell_other _ _ _ _ (fun e => by injection e with e1 _ _; exact hne e1)
theorem cells_last {w : World} {cs : Array Value} {t : TypeId} {j : Nat} {v : Value} {g : Nat} (hg : w.heap.size = g) (hv : cs[j]? = some v) : (w.alloc (.cells cs t)).cell? ⟨g, j, none⟩ = some v := by
  subst hg
  rw [cell_heap (heap_alloc_new w _), hv]

/-- Block g holds these cells, and may be written. -/
structure Blk (W : World) (g : Nat) (vs : List Value) : Prop where
  c : ∀ j v, vs[j]? = some v → W.cell? ⟨g, j, none⟩ = some v
  f : ∀ j, W.frozen? ⟨g, j, none⟩ = false
  lt : g < W.heap.size
section
variable {W W' : World} {g : Nat} {vs : List Value}
theorem Blk.ext (h : Blk W g vs) (he : Ext W W') : Blk W' g vs :=
  ⟨fun j v hv => he.cell (h.c j v hv), fun j => (he.frozen h.lt).trans (h.f j), Nat.lt_of_lt_of_le h.lt he.le⟩
theorem Blk.new (cs : Array Value) (t : TypeId) : Blk (W.alloc (.cells cs t)) W.heap.size cs.toList :=
  ⟨fun j v hv => cells_last rfl (by simpa using hv), fun j => by simp only [World.frozen?, heap_alloc_new]; simp, by simp⟩
theorem Blk.new' {cs : Array Value} {t : TypeId} {n : Nat} (hn : W.heap.size = n) : Blk (W.alloc (.cells cs t)) n cs.toList := by subst hn; exact Blk.new cs t
theorem Blk.set (h : Blk W g vs) {j : Nat} (hj : j < vs.length) (x : Value) : Blk (W.setCell ⟨g, j, none⟩ x) g (vs.set j x) := by
  refine ⟨fun k v hv => ?_, fun k => by rw [World.frozen?_setCell]; exact h.f k, by simpa using h.lt⟩
  by_cases e : j = k
  · subst e
    rw [List.getElem?_set_self hj] at hv
    injection hv with hv
    subst hv
    exact cell_same' vs[j] (h.c j _ (List.getElem?_eq_getElem hj))
  · rw [List.getElem?_set_ne e] at hv
    rw [cell_far' e]
    exact h.c k v hv
theorem Blk.other (h : Blk W g vs) {b k : Nat} (hb : b ≠ g) (x : Value) : Blk (W.setCell ⟨b, k, none⟩ x) g vs :=
  ⟨fun j v hv => by rw [cell_off' hb]; exact h.c j v hv, fun j => by rw [World.frozen?_setCell]; exact h.f j, by simpa using h.lt⟩
/-- The cell j, for every world that holds what W holds. -/
theorem Blk.at_ (h : Blk W g vs) (j : Nat) {v : Value} (hv : vs[j]? = some v) : ∀ w', Ext W w' → w'.cell? ⟨g, j, none⟩ = some v := fun _ he => he.cell (h.c j v hv)
theorem Blk.free (h : Blk W g vs) (j : Nat) : ∀ w', Ext W w' → w'.frozen? ⟨g, j, none⟩ = false := fun _ he => (he.frozen h.lt).trans (h.f j)
end

theorem results_pose {fn : Func} {t : Tmp} (h : fn.results = #[.cell t 78]) (tmps : Array Value) (w : World) {g : Nat} {u0 u1 u2 u3 u4 : Value} (h8 : tmps.getD t undef = .pointer (some ⟨g, 0, none⟩)) (hb : Blk w g [u0, u1, u2, u3, u4]) :
    (results fn tmps).run Tryz.prog w = .ok (.agg #[u0, u1, u2, u3, u4]) w := by
  rw [Array.getD_eq_getD_getElem?] at h8
  have c0 := hb.c 0 _ rfl
  have c1 := hb.c 1 _ rfl
  have c2 := hb.c 2 _ rfl
  have c3 := hb.c 3 _ rfl
  have c4 := hb.c 4 _ rfl
  simp [results, h, loadVar, h8, c0, c1, c2, c3, c4, loadCells, loadCellsFrom, asAddr, Addr.add_lit, Result.andThen, go_sem]

theorem results_apart {fn : Func} {t : Tmp} (h : fn.results = #[.cell t 111]) (tmps : Array Value) (w : World) {g : Nat} {u0 u1 u2 u3 u4 u5 : Value} (h8 : tmps.getD t undef = .pointer (some ⟨g, 0, none⟩)) (hb : Blk w g [u0, u1, u2, u3, u4, u5]) :
    (results fn tmps).run Tryz.prog w = .ok (.agg #[u0, u1, u2, u3, u4, u5]) w := by
  rw [Array.getD_eq_getD_getElem?] at h8
  have c0 := hb.c 0 _ rfl
  have c1 := hb.c 1 _ rfl
  have c2 := hb.c 2 _ rfl
  have c3 := hb.c 3 _ rfl
  have c4 := hb.c 4 _ rfl
  have c5 := hb.c 5 _ rfl
  simp [results, h, loadVar, h8, c0, c1, c2, c3, c4, c5, loadCells, loadCellsFrom, asAddr, Addr.add_lit, Result.andThen, go_sem]

end Go.Proofs.YtebkhdhhajjhfaaGreat

/- Places: what the small functions compute, by the code and by the reference. -/
namespace Go.Proofs.YtebkhdhhajjhfaaGreat
open Go.RowKit

theorem ret_i {a b : Int} (h : a = b) : Ending.returned (.int .i64 a) = .returned (.int .i64 b) := by rw [h]
theorem ret_b {a b : Bool} (h : a = b) : Ending.returned (.bool a) = .returned (.bool b) := by rw [h]

/-- The numbers of a pose are small. -/
structure PsOk (p : Ps) : Prop where
  bp : -15625 ≤ p.p ∧ p.p ≤ 15625
  bq : -15625 ≤ p.q ∧ p.q ≤ 15625
  bx : -9375000 ≤ p.x ∧ p.x ≤ 9375000
  bz : -9375000 ≤ p.y ∧ p.y ≤ 9375000
  bd : 1 ≤ p.d ∧ p.d ≤ 15625
theorem psOk {p : Ps} (h : PoseOk p 3) : PsOk p := ⟨(pose_small h).2.1, (pose_small h).2.2.1, (pose_small h).2.2.2.1, (pose_small h).2.2.2.2, (pose_small h).1⟩

set_option maxHeartbeats 400000 in
theorem place_any (p : Ps) (s : Sp) (w : World) (hp : PsOk p) (hs : spotB s) :
    Calls Tryz.prog 90 #[p.val, s.val] w fun e w' => e = .returned (plc p s).val ∧ Ext w w' := by
  obtain ⟨P, Q, X, Y, D⟩ := p
  obtain ⟨x, y⟩ := s
  obtain ⟨p1, p2, p3, p4, p5⟩ := hp
  obtain ⟨s1, s2⟩ := hs
  simp only at p1 p2 p3 p4 p5 s1 s2
  have e1 := prod_le p1.1 p1.2 s1.1 s1.2
  have e2 := prod_le p2.1 p2.2 s2.1 s2.2
  have e3 := prod_le p2.1 p2.2 s1.1 s1.2
  have e4 := prod_le p1.1 p1.2 s2.1 s2.2
  simp only [Int.reduceMul] at e1 e2 e3 e4
  go_enter Tryz.func90, Tryz.ntmps90
  go_wp2
  exact bodyPost_ret (v := (plc ⟨P, Q, X, Y, D⟩ ⟨x, y⟩).val) (by simp [results, Tryz.results90, go_sem, plc]) rfl ⟨rfl, by simp (maxDischargeDepth := 8)⟩
set_option maxHeartbeats 400000 in
theorem side_any (a b c : Cn) (w : World) (he : EdgeOk a b) (hc : CnOk c) :
    Calls Tryz.prog 56 #[a.val, b.val, c.val] w fun e w' => e = .returned (.int .i64 (sideC a b c)) ∧ Ext w w' := by
  have hf := side_fit he.ca.d hc.d he.ca.x he.ca.y hc.x hc.y he.x he.y
  have hx := he.x
  have hy := he.y
  obtain ⟨⟨ax, ay⟩, d⟩ := a
  obtain ⟨⟨bx, bY⟩, bd⟩ := b
  obtain ⟨⟨cx, cy⟩, e⟩ := c
  simp only at hf hx hy
  obtain ⟨f1, f2, f3, f4, f5, f6⟩ := hf
  clear he hc
  go_enter Tryz.func56, Tryz.ntmps56
  go_wp2
  go_ret
  exact ⟨rfl, by simp (maxDischargeDepth := 8)⟩
end Go.Proofs.YtebkhdhhajjhfaaGreat

/- The greatest common divisor, by the code (of some numbers) and by the reference (of two). -/
namespace Go.Proofs.YtebkhdhhajjhfaaGreat
open Go.RowKit

theorem gcd_tmod (x y : Int) : Int.gcd y (x.tmod y) = Int.gcd x y := by
  show Nat.gcd y.natAbs (x.tmod y).natAbs = Nat.gcd x.natAbs y.natAbs
  rw [Int.natAbs_tmod, Nat.gcd_comm x.natAbs y.natAbs, Nat.gcd_comm, ← Nat.gcd_rec]
/-- The greatest common divisor of some numbers. -/
def gN (xs : List Int) : Nat := xs.foldl (fun g x => Nat.gcd g x.natAbs) 0
theorem gN_succ {xs : List Int} {k : Nat} (h : k < xs.length) : gN (xs.take (k + 1)) = Nat.gcd (gN (xs.take k)) (getI xs k).natAbs := by
  unfold gN
  rw [List.take_succ_eq_append_getElem h, List.foldl_append, getI_eq h]
  rfl
theorem gN_five (p : Ps) : gN [p.p, p.q, p.x, p.y, p.d] = g5 p := by simp [gN, g5]

set_option maxHeartbeats 800000 in
theorem divisor_any (A : Option Addr) (c : Nat) (xs : List Int) (w : World) (hA : Ints w A xs) (hl : xs.length ≤ 1000) (hb : ∀ k, k < xs.length → -1000000000 ≤ getI xs k ∧ getI xs k ≤ 1000000000) :
    Calls Tryz.prog 136 #[.slice A xs.length c] w fun e w' => e = .returned (.int .i64 (gN xs : Int)) ∧ Ext w w' := by
  have ha := fun k (hk : k < xs.length) => hA.some_ (by omega : 0 < xs.length)
  have hs := fun k (hk : k < xs.length) => gN_succ hk
  have hall : gN (xs.take xs.length) = gN xs := by rw [List.take_length]
  have h0 : gN (xs.take 0) = 0 := rfl
  have Ha := Lib.hid ha
  have Hs := Lib.hid hs
  have Hb := Lib.hid hb
  have Hall := Lib.hid hall
  have H0 := Lib.hid h0
  clear ha hs hb hall h0 hA
  generalize hG : gN xs = G at *
  clear hG
  generalize (fun k => gN (xs.take k)) = F at *
  generalize xs.length = n at *
  go_enter Tryz.func136, Tryz.ntmps136
  go_wp2
  go_loopw [8, 3] (fun i o wr => ∃ (k : Nat) (x : Int), k ≤ n ∧ i = .int .i64 k ∧ o = .int .i64 x ∧ Ext w wr ∧ x.natAbs = gN (xs.take k) ∧ -1000000000 ≤ x ∧ x ≤ 1000000000) (fun i _ _ => n - (intOf i).toNat)
  case atStart => exact ⟨0, 0, by omega, rfl, rfl, Ext.refl _, H0.out.symm, by omega, by omega⟩
  case round =>
    obtain ⟨k, x, hk, rfl, rfl, hex, hg, hx1, hx2⟩ := hrel
    have Hg := Lib.hid hg
    clear hg
    by_cases hlt : k < n
    · obtain ⟨ad, rfl, hc0⟩ := Ha.out k hlt
      have hc : ∀ w', Ext wr w' → w'.cell? (ad.add k) = some (.int .i64 (getI xs k)) := fun w' he => hc0 k hlt w' (hex.trans he)
      have hbk := Hb.out k hlt
      have hsk := Hs.out k hlt
      rw [← Hg.out] at hsk
      have Hsk := Lib.hid hsk
      clear hsk Ha Hs Hb hc0
      generalize getI xs k = z at *
      go_wp2
      obtain ⟨wo, rfl⟩ : ∃ wo : World, wo = wr := ⟨_, rfl⟩
      go_loopw [3, 5] (fun u v wr => ∃ x' y : Int, u = .int .i64 x' ∧ v = .int .i64 y ∧ Ext w wr ∧ Int.gcd x' y = Int.gcd x z ∧ (-1000000000 ≤ x' ∧ x' ≤ 1000000000) ∧ -1000000000 ≤ y ∧ y ≤ 1000000000) (fun _ v _ => (intOf v).natAbs)
      case atStart => exact ⟨x, z, rfl, rfl, hex, rfl, ⟨hx1, hx2⟩, hbk⟩
      case round =>
        obtain ⟨x', y, rfl, rfl, hex', hg, hx', hy1⟩ := hrel
        have Hg' := Lib.hid hg
        clear hg
        by_cases hy : y = 0
        · subst hy
          go_wp2
          go_roundw
          case rel => exact ⟨k + 1, x', by omega, by go_num, rfl, hex', by rw [Hsk.out]; have := Hg'.out; simpa [Int.gcd] using this, by omega, by omega⟩
          case measure => simp [intOf]; omega
        · have hy' : (y == 0) = false := beq_eq_false_iff_ne.2 hy
          have hy2 : (y != 0) = true := by rw [bne_iff_ne]; exact hy
          have hab : (x'.tmod y).natAbs < y.natAbs := by rw [Int.natAbs_tmod]; exact Nat.mod_lt _ (by omega)
          have hg2 := gcd_tmod x' y
          have Hg2 := Lib.hid hg2
          clear hg2
          go_wp2
          go_quiet (fail)
          go_wp2
          go_roundw
          case rel => exact ⟨y, x'.tmod y, rfl, rfl, hex'.trans (by simp), Hg2.out.trans Hg'.out, by omega, by omega, by omega⟩
          case measure => simp [intOf]; exact Nat.mod_lt _ (by omega)
    · obtain rfl : n = k := by omega
      go_wp2
      all_goals go_ret
      all_goals exact ⟨ret_i (by rw [← Hall.out, ← Hg.out]; omega), hex⟩
abbrev tval (t : Int × Int × Int) : Value := .agg #[vint t.1, vint t.2.1, vint t.2.2]
end Go.Proofs.YtebkhdhhajjhfaaGreat

/- The angles: by the reference, without a search. -/
namespace Go.Proofs.YtebkhdhhajjhfaaGreat
open Go.RowKit
end Go.Proofs.YtebkhdhhajjhfaaGreat

/- The angles: by the reference, without a search. -/
namespace Go.Proofs.YtebkhdhhajjhfaaGreat
open Go.RowKit
end Go.Proofs.YtebkhdhhajjhfaaGreat

/- The angles: by the reference, without a search. -/
namespace Go.Proofs.YtebkhdhhajjhfaaGreat
open Go.RowKit
end Go.Proofs.YtebkhdhhajjhfaaGreat

/- The angles: by the reference, without a search. -/
namespace Go.Proofs.YtebkhdhhajjhfaaGreat
open Go.RowKit
end Go.Proofs.YtebkhdhhajjhfaaGreat

/- The angles: by the reference, without a search. -/
namespace Go.Proofs.YtebkhdhhajjhfaaGreat
open Go.RowKit
end Go.Proofs.YtebkhdhhajjhfaaGreat

/- A pose in lowest terms: by the reference. -/
namespace Go.Proofs.YtebkhdhhajjhfaaGreat
open Go.RowKit
theorem quo_low {a g b : Int} (hg : 0 < g) (h : a = g * b) : a.tdiv g = b := by rw [h]; exact Int.mul_tdiv_cancel_left b (by omega)
/-- A turn of a pose. -/
def trnP (p : Ps) (t : Int × Int × Int) : Ps := ⟨t.1 * p.p - t.2.1 * p.q, t.2.1 * p.p + t.1 * p.q, 0, 0, t.2.2 * p.d⟩
theorem trn_ok {p : Ps} {k : Nat} (h : PoseOk p k) {n : Nat} (hn : n < 36) : PoseOk (trnP p (trn n)) (k + 1) := by
  obtain ⟨t1, t2, t3⟩ := turns_ok n hn
  generalize trn n = t at *
  obtain ⟨ta, tb, tr⟩ := t
  simp only at t1 t2 t3
  unfold trnP
  simp only
  have hd : 0 < tr * p.d := Int.mul_pos (by omega) h.d0
  have hk : 0 ≤ 200 * ((k + 1 : Nat) : Int) * (tr * p.d) := Int.mul_nonneg (by omega) (by omega)
  refine ⟨hd, ?_, ?_, ?_, ?_, ?_, ?_⟩
  · have h1 := h.d1
    have h2 : (25 : Int) ^ (k + 1) = 25 * 25 ^ k := by rw [Int.pow_succ]; omega
    simp only
    rw [h2]
    exact Int.mul_le_mul t2 h1 (Int.le_of_lt h.d0) (by omega)
  · have := h.pq
    simp only
    have e : (ta * p.p - tb * p.q) * (ta * p.p - tb * p.q) + (tb * p.p + ta * p.q) * (tb * p.p + ta * p.q) = (ta * ta + tb * tb) * (p.p * p.p + p.q * p.q) := by grind
    rw [e, t3, this]
    grind
  all_goals simp only; omega
theorem trn_small : ∀ n : Nat, n < 36 → (-25 ≤ (trn n).1 ∧ (trn n).1 ≤ 25) ∧ (-25 ≤ (trn n).2.1 ∧ (trn n).2.1 ≤ 25) ∧ 1 ≤ (trn n).2.2 ∧ (trn n).2.2 ≤ 25 := by decide
end Go.Proofs.YtebkhdhhajjhfaaGreat

/- Angles and pairs in memory. -/
namespace Go.Proofs.YtebkhdhhajjhfaaGreat
open Go.RowKit
def tcells (s : Int × Int × Int) : List Value := [vint s.1, vint s.2.1, vint s.2.2]
def TRow (w : World) (A : Option Addr) (l : List (Int × Int × Int)) : Prop := Row w A (l.map tcells).flatten
def tAt (l : List (Int × Int × Int)) (k : Nat) : Int × Int × Int := l.getD k (1, 0, 1)
theorem tAt_eq {l : List (Int × Int × Int)} {k : Nat} (h : k < l.length) : tAt l k = l[k] := by simp [tAt, List.getD, h]
theorem TRow.at_ {w : World} {A : Option Addr} {l : List (Int × Int × Int)} (h : TRow w A l) {k : Nat} (hk : k < l.length) :
    ∃ ad, A = some ad ∧ (∀ w', Ext w w' → w'.cell? (ad.add (k * 3)) = some (.int .i64 (tAt l k).1)) ∧
      (∀ w', Ext w w' → w'.cell? ⟨(ad.add (k * 3)).block, (ad.add (k * 3)).off + 1, none⟩ = some (.int .i64 (tAt l k).2.1)) ∧
      (∀ w', Ext w w' → w'.cell? ⟨(ad.add (k * 3)).block, (ad.add (k * 3)).off + 2, none⟩ = some (.int .i64 (tAt l k).2.2)) := by
  rw [tAt_eq hk]
  obtain ⟨ad, ha, hc⟩ := Row.struct (size := 3) h (fun r hr => by obtain ⟨x, _, rfl⟩ := List.mem_map.1 hr; rfl) (k := k) (by simpa using hk) (by omega)
  refine ⟨ad, ha, fun w' he => ?_, fun w' he => ?_, fun w' he => ?_⟩
  · have := hc 0 (by omega) w' he
    rw [add_zero_] at this
    simpa [tcells] using this
  · have := hc 1 (by omega) w' he
    rw [add_lit _ _ (by omega)] at this
    simpa [tcells] using this
  · have := hc 2 (by omega) w' he
    rw [add_lit _ _ (by omega)] at this
    simpa [tcells] using this

end Go.Proofs.YtebkhdhhajjhfaaGreat

/- Comparing lists of numbers; sorting angles that are sorted. -/
namespace Go.Proofs.YtebkhdhhajjhfaaGreat
open Go.RowKit

theorem nan_any (a : Int) (w : World) : Calls Tryz.prog 157 #[.int .i64 a] w fun e w' => e = .returned (.bool false) ∧ w = w' := by
  go_enter Tryz.func157, Tryz.ntmps157
  go_wp2
  go_ret
  exact ⟨by simp, rfl⟩
def cmpI (a b : Int) : Int := if a < b then -1 else if b < a then 1 else 0
theorem cmp_any (a b : Int) (w : World) : Calls Tryz.prog 109 #[.int .i64 a, .int .i64 b] w fun e w' => e = .returned (.int .i64 (cmpI a b)) ∧ w = w' := by
  have h1 : a < b → (-1 : Int) = cmpI a b := fun h => by unfold cmpI; rw [if_pos h]
  have h2 : b < a → (1 : Int) = cmpI a b := fun h => by unfold cmpI; rw [if_neg (by omega), if_pos h]
  have h3 : a = b → (0 : Int) = cmpI a b := fun h => by unfold cmpI; rw [if_neg (by omega), if_neg (by omega)]
  have H1 := Lib.hid h1
  have H2 := Lib.hid h2
  have H3 := Lib.hid h3
  clear h1 h2 h3
  generalize cmpI a b = c at *
  go_enter Tryz.func109, Tryz.ntmps109
  go_wp2_with (go_at_call 157; refine (nan_any _ _).mono ?_; rintro e w' ⟨rfl, rfl⟩)
  all_goals go_ret
  all_goals first | exact ⟨ret_i (H1.out (by omega)), rfl⟩ | exact ⟨ret_i (H2.out (by omega)), rfl⟩ | exact ⟨ret_i (H3.out (by omega)), rfl⟩
/-- The first place where two lists part. -/
def cmpL : List Int → List Int → Int
  | x :: xs, y :: ys => if cmpI x y = 0 then cmpL xs ys else cmpI x y
  | [], [] => 0
  | [], _ :: _ => -1
  | _ :: _, [] => 1
theorem cmpL_at : ∀ (xs ys : List Int) (k : Nat), xs.length = ys.length → k < xs.length → (∀ j, j < k → cmpI (getI xs j) (getI ys j) = 0) → ¬ cmpI (getI xs k) (getI ys k) = 0 → cmpI (getI xs k) (getI ys k) = cmpL xs ys
  | [], _, _, _, h, _, _ => absurd h (by simp)
  | _ :: _, [], _, h, _, _, _ => absurd h (by simp)
  | x :: xs, y :: ys, 0, _, _, _, hn => by
    have hn : ¬ cmpI x y = 0 := hn
    show cmpI x y = cmpL (x :: xs) (y :: ys)
    unfold cmpL
    rw [if_neg hn]
  | x :: xs, y :: ys, k + 1, hl, hk, hj, hn => by
    have h0 : cmpI x y = 0 := hj 0 (by omega)
    show _ = cmpL (x :: xs) (y :: ys)
    unfold cmpL
    rw [if_pos h0]
    exact cmpL_at xs ys k (by simpa using hl) (by simpa using hk) (fun j h => hj (j + 1) (by omega)) hn
theorem cmpL_same : ∀ (xs ys : List Int), xs.length = ys.length → (∀ j, j < xs.length → cmpI (getI xs j) (getI ys j) = 0) → 0 = cmpL xs ys
  | [], [], _, _ => rfl
  | [], _ :: _, h, _ => absurd h (by simp)
  | _ :: _, [], h, _ => absurd h (by simp)
  | x :: xs, y :: ys, hl, hj => by
    have h0 : cmpI x y = 0 := hj 0 (by simp)
    unfold cmpL
    rw [if_pos h0]
    exact cmpL_same xs ys (by simpa using hl) (fun j h => hj (j + 1) (by simpa using h))

set_option maxHeartbeats 800000 in
theorem compare_any (A B : Option Addr) (c d : Nat) (xs ys : List Int) (w : World) (hA : Ints w A xs) (hB : Ints w B ys) (hl : xs.length = ys.length) (hn : xs.length ≤ 1000) :
    Calls Tryz.prog 76 #[.slice A xs.length c, .slice B xs.length d] w fun e w' => e = .returned (.int .i64 (cmpL xs ys)) ∧ w = w' := by
  have ha := fun k (hk : k < xs.length) => hA.some_ (by omega : 0 < xs.length)
  have hb := fun k (hk : k < xs.length) => hB.some_ (by omega : 0 < ys.length)
  have hat := fun k (hk : k < xs.length) => cmpL_at xs ys k hl hk
  have hsa := cmpL_same xs ys hl
  rw [← hl] at hb
  have Ha := Lib.hid ha
  have Hb := Lib.hid hb
  have Hat := Lib.hid hat
  have Hsa := Lib.hid hsa
  clear ha hb hat hsa hA hB hl
  generalize cmpL xs ys = R at *
  generalize xs.length = n at *
  go_enter Tryz.func76, Tryz.ntmps76
  go_wp2
  go_loop [11] (fun i => ∃ k : Nat, k ≤ n ∧ i = .int .i64 k ∧ ∀ j, j < k → cmpI (getI xs j) (getI ys j) = 0) (fun i => n - (intOf i).toNat)
  case atStart => exact ⟨0, by omega, rfl, fun j h => absurd h (by omega)⟩
  case round =>
    obtain ⟨k, hk, rfl, hj⟩ := hrel
    by_cases hlt : k < n
    · obtain ⟨a1, rfl, g1⟩ := Ha.out k hlt
      obtain ⟨a2, rfl, g2⟩ := Hb.out k hlt
      have c1 := g1 k hlt w (Ext.refl w)
      have c2 := g2 k hlt w (Ext.refl w)
      clear g1 g2
      have hat := Hat.out k hlt hj
      have hnx : cmpI (getI xs k) (getI ys k) = 0 → ∀ j, j < k + 1 → cmpI (getI xs j) (getI ys j) = 0 := fun h j hj2 => by
        by_cases e : j = k
        · subst e; exact h
        · exact hj j (by omega)
      have Hat' := Lib.hid hat
      have Hnx := Lib.hid hnx
      clear hat hnx hj Hat Hsa Ha Hb
      generalize getI xs k = x at *
      generalize getI ys k = y at *
      go_wp2_with (go_at_call 109; refine (cmp_any _ _ _).mono ?_; rintro e w' ⟨rfl, rfl⟩)
      · go_ret
        have hne : ¬ cmpI x y = 0 := by simpa using ‹(cmpI x y != 0) = true›
        exact ⟨ret_i (Hat'.out hne), rfl⟩
      · go_round
        have he : cmpI x y = 0 := by simpa using ‹(cmpI x y != 0) = false›
        case rel => exact ⟨k + 1, by omega, by go_num, Hnx.out he⟩
        case measure => simp [intOf]; omega
    · obtain rfl : n = k := by omega
      go_wp2
      go_ret
      exact ⟨ret_i (Hsa.out hj), rfl⟩
end Go.Proofs.YtebkhdhhajjhfaaGreat
