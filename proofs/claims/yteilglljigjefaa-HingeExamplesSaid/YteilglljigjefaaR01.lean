/- Two convex polygons and a line between: an edge is enough. Plain Lean. -/
import Derived.Test.YteilglljigjefaaProg
import Derived.WalkKit
import Derived.Deep.QuietTactic
import Derived.BigQuiet
import Derived.StillTailTactics
import Derived.WalkSpells
import Derived.Lib.Hide
import Derived.WalkLawsBesides
import Derived.WalkSmall
import Derived.Deep.LoopGhost
namespace Go.Proofs.Yteilglljigjefaa
theorem mul_le_cancel {t z : Int} (ht : 0 < t) (h : 0 ≤ t * z) : 0 ≤ z := by
  rcases Int.lt_or_le z 0 with hz | hz
  · have := Int.mul_neg_of_pos_of_neg ht hz
    omega
  · exact hz
/-- fractions: σ = q/p, τ = s/r; p, r at least 0, (p,q) not (0, at most 0)... -/
theorem cone_up {p1 r1 r0 q1 s1 s0 : Int} (hp1 : 0 ≤ p1) (hr1 : 0 ≤ r1) (hr0 : 0 ≤ r0) (hq : p1 = 0 → 0 < q1) (h2 : 0 < r1 * s0 - s1 * r0) (h : 0 ≤ p1 * s1 + q1 * r1) : 0 ≤ p1 * s0 + q1 * r0 := by
  rcases Int.lt_or_le 0 r1 with hr | hr
  · apply mul_le_cancel hr
    have e : r1 * (p1 * s0 + q1 * r0) = p1 * (r1 * s0 - s1 * r0) + r0 * (p1 * s1 + q1 * r1) := by grind
    rw [e]
    have a1 := Int.mul_nonneg hp1 (Int.le_of_lt h2)
    have a2 := Int.mul_nonneg hr0 h
    omega
  · obtain rfl : r1 = 0 := by omega
    have hr0' : 0 < r0 := by
      rcases Int.lt_or_le 0 r0 with h0 | h0
      · exact h0
      · obtain rfl : r0 = 0 := by omega
        simp at h2
    have hs1 : s1 < 0 := by
      rcases Int.lt_or_le s1 0 with h0 | h0
      · exact h0
      · have := Int.mul_nonneg h0 hr0
        omega
    have hp : p1 = 0 := by
      rcases Int.lt_or_le 0 p1 with h0 | h0
      · have := Int.mul_neg_of_pos_of_neg h0 hs1
        omega
      · omega
    subst hp
    have := Int.mul_pos (hq rfl) hr0'
    omega
/-- transitivity: ρ ≤ σ1, σ1 < -τ1 gives ρ ≤ -τ1. -/
theorem cone_tr {p1 r1 q1 s1 x y : Int} (hp1 : 0 ≤ p1) (hr1 : 0 ≤ r1) (hx : 0 ≤ x) (hq : p1 = 0 → 0 < q1) (h : p1 * s1 + q1 * r1 < 0) (hv : 0 ≤ q1 * x - p1 * y) : r1 * y + s1 * x ≤ 0 := by
  rcases Int.lt_or_le 0 p1 with hp | hp
  · have : 0 ≤ -(r1 * y + s1 * x) := by
      apply mul_le_cancel hp
      have e : p1 * -(r1 * y + s1 * x) = r1 * (q1 * x - p1 * y) + x * -(p1 * s1 + q1 * r1) := by grind
      rw [e]
      have a1 := Int.mul_nonneg hr1 hv
      have a2 : 0 ≤ x * -(p1 * s1 + q1 * r1) := Int.mul_nonneg hx (by omega)
      omega
    omega
  · obtain rfl : p1 = 0 := by omega
    have := Int.mul_nonneg (Int.le_of_lt (hq rfl)) hr1
    omega
theorem cone {p1 p0 r1 r0 q1 q0 s1 s0 x y : Int} (hp1 : 0 ≤ p1) (hp0 : 0 ≤ p0) (hr1 : 0 ≤ r1) (hr0 : 0 ≤ r0) (hx : 0 ≤ x) (h1 : 0 < q1 * p0 - p1 * q0) (h2 : 0 < r1 * s0 - s1 * r0) :
    (0 ≤ p1 * s1 + q1 * r1 ∧ 0 ≤ p1 * s0 + q1 * r0 ∧ 0 ≤ q1 * x - p1 * y) ∨ (p0 * s1 + q0 * r1 ≤ 0 ∧ p0 * s0 + q0 * r0 ≤ 0 ∧ q0 * x - p0 * y ≤ 0) ∨
    (r1 * q1 + s1 * p1 ≤ 0 ∧ r1 * q0 + s1 * p0 ≤ 0 ∧ r1 * y + s1 * x ≤ 0) ∨ (0 ≤ r0 * q1 + s0 * p1 ∧ 0 ≤ r0 * q0 + s0 * p0 ∧ 0 ≤ r0 * y + s0 * x) := by
  have z1 : p1 = 0 → 0 < q1 := fun h => by
    subst h
    rcases Int.lt_or_le 0 q1 with h0 | h0
    · exact h0
    · have := Int.mul_nonneg (show 0 ≤ -q1 by omega) hp0
      have e : -q1 * p0 = -(q1 * p0) := by grind
      omega
  have z0 : p0 = 0 → q0 < 0 := fun h => by
    subst h
    rcases Int.lt_or_le q0 0 with h0 | h0
    · exact h0
    · have := Int.mul_nonneg hp1 h0
      omega
  rcases Int.lt_or_le (q1 * x - p1 * y) 0 with hv | hv
  · -- rho above sigma1, so above sigma0
    have hv0 : q0 * x - p0 * y ≤ 0 := by
      rcases Int.lt_or_le 0 p1 with hp | hp
      · have : 0 ≤ -(q0 * x - p0 * y) := by
          apply mul_le_cancel hp
          have e : p1 * -(q0 * x - p0 * y) = x * (q1 * p0 - p1 * q0) + p0 * -(q1 * x - p1 * y) := by grind
          rw [e]
          have a1 := Int.mul_nonneg hx (Int.le_of_lt h1)
          have a2 : 0 ≤ p0 * -(q1 * x - p1 * y) := Int.mul_nonneg hp0 (by omega)
          omega
        omega
      · obtain rfl : p1 = 0 := by omega
        have := Int.mul_nonneg (Int.le_of_lt (z1 rfl)) hx
        omega
    rcases Int.lt_or_le 0 (p0 * s0 + q0 * r0) with hs | hs
    · refine .inr (.inr (.inr ⟨?_, ?_, ?_⟩))
      · -- sigma1 > sigma0 > -tau0
        rcases Int.lt_or_le 0 p0 with hp | hp
        · apply mul_le_cancel hp
          have e : p0 * (r0 * q1 + s0 * p1) = r0 * (q1 * p0 - p1 * q0) + p1 * (p0 * s0 + q0 * r0) := by grind
          rw [e]
          have a1 := Int.mul_nonneg hr0 (Int.le_of_lt h1)
          have a2 := Int.mul_nonneg hp1 (Int.le_of_lt hs)
          omega
        · obtain rfl : p0 = 0 := by omega
          have := Int.mul_nonneg (show 0 ≤ -q0 by have := z0 rfl; omega) hr0
          have e : -q0 * r0 = -(q0 * r0) := by grind
          omega
      · have e : r0 * q0 + s0 * p0 = p0 * s0 + q0 * r0 := by grind
        omega
      · rcases Int.lt_or_le 0 p0 with hp | hp
        · apply mul_le_cancel hp
          have e : p0 * (r0 * y + s0 * x) = x * (p0 * s0 + q0 * r0) + r0 * -(q0 * x - p0 * y) := by grind
          rw [e]
          have a1 := Int.mul_nonneg hx (Int.le_of_lt hs)
          have a2 : 0 ≤ r0 * -(q0 * x - p0 * y) := Int.mul_nonneg hr0 (by omega)
          omega
        · obtain rfl : p0 = 0 := by omega
          have := Int.mul_nonneg (show 0 ≤ -q0 by have := z0 rfl; omega) hr0
          have e : -q0 * r0 = -(q0 * r0) := by grind
          omega
    · refine .inr (.inl ⟨?_, hs, hv0⟩)
      -- tau1 < tau0, sigma0 + tau0 ≤ 0
      have z2 : r0 = 0 → 0 < s0 := fun h => by
        subst h
        rcases Int.lt_or_le 0 s0 with h0 | h0
        · exact h0
        · have := Int.mul_nonneg hr1 (show 0 ≤ -s0 by omega)
          have e : r1 * -s0 = -(r1 * s0) := by grind
          omega
      rcases Int.lt_or_le 0 r0 with hr | hr
      · have : 0 ≤ -(p0 * s1 + q0 * r1) := by
          apply mul_le_cancel hr
          have e : r0 * -(p0 * s1 + q0 * r1) = p0 * (r1 * s0 - s1 * r0) + r1 * -(p0 * s0 + q0 * r0) := by grind
          rw [e]
          have a1 := Int.mul_nonneg hp0 (Int.le_of_lt h2)
          have a2 : 0 ≤ r1 * -(p0 * s0 + q0 * r0) := Int.mul_nonneg hr1 (by omega)
          omega
        omega
      · obtain rfl : r0 = 0 := by omega
        have hp : p0 = 0 := by
          rcases Int.lt_or_le 0 p0 with h0 | h0
          · have := Int.mul_pos h0 (z2 rfl)
            omega
          · omega
        subst hp
        have := Int.mul_nonneg (show 0 ≤ -q0 by have := z0 rfl; omega) hr1
        have e : -q0 * r1 = -(q0 * r1) := by grind
        omega
  · rcases Int.lt_or_le (p1 * s1 + q1 * r1) 0 with hs | hs
    · refine .inr (.inr (.inl ⟨?_, ?_, cone_tr hp1 hr1 hx z1 hs hv⟩))
      · have e : r1 * q1 + s1 * p1 = p1 * s1 + q1 * r1 := by grind
        omega
      · have := cone_tr (x := p0) (y := q0) hp1 hr1 hp0 z1 hs (by omega)
        exact this
    · exact .inl ⟨hs, cone_up hp1 hr1 hr0 z1 h2 hs, hv⟩
/-- A place. -/
structure Sp where
  x : Int
  y : Int
  deriving DecidableEq
/-- Above 0 if c is to the left of the edge from a to b. -/
def sd (a b c : Sp) : Int := (b.x - a.x) * (c.y - a.y) - (b.y - a.y) * (c.x - a.x)
/-- A convex polygon: each other corner is strictly to the left of each edge. -/
def Cvx (K : Nat → Sp) (n : Nat) : Prop := 3 ≤ n ∧ ∀ i k, i < n → k < n → k ≠ i → k ≠ (i + 1) % n → 0 < sd (K i) (K ((i + 1) % n)) (K k)
/-- An edge of K has all of L on its line or to the right. -/
def Prt (K : Nat → Sp) (n : Nat) (L : Nat → Sp) (m : Nat) : Prop := ∃ i, i < n ∧ ∀ j, j < m → sd (K i) (K ((i + 1) % n)) (L j) ≤ 0
theorem sd_self1 (a b : Sp) : sd a b a = 0 := by unfold sd; grind
theorem sd_self2 (a b : Sp) : sd a b b = 0 := by unfold sd; grind
theorem Cvx.ge {K : Nat → Sp} {n : Nat} (h : Cvx K n) {i k : Nat} (hi : i < n) (hk : k < n) : 0 ≤ sd (K i) (K ((i + 1) % n)) (K k) := by
  by_cases h1 : k = i
  · subst h1; rw [sd_self1]; exact Int.le_refl _
  · by_cases h2 : k = (i + 1) % n
    · subst h2; rw [sd_self2]; exact Int.le_refl _
    · exact Int.le_of_lt (h.2 i k hi hk h1 h2)
theorem max_at (f : Nat → Int) : ∀ n, 0 < n → ∃ i, i < n ∧ ∀ k, k < n → f k ≤ f i
  | 0, h => absurd h (by omega)
  | 1, _ => ⟨0, by omega, fun k hk => by obtain rfl : k = 0 := by omega
                                         exact Int.le_refl _⟩
  | n + 2, _ => by
    obtain ⟨i, hi, h⟩ := max_at f (n + 1) (by omega)
    by_cases hc : f i ≤ f (n + 1)
    · refine ⟨n + 1, by omega, fun k hk => ?_⟩
      by_cases hk2 : k < n + 1
      · have := h k hk2; omega
      · obtain rfl : k = n + 1 := by omega
        exact Int.le_refl _
    · refine ⟨i, by omega, fun k hk => ?_⟩
      by_cases hk2 : k < n + 1
      · exact h k hk2
      · obtain rfl : k = n + 1 := by omega
        omega
/-- The corner before. -/
theorem before {n i : Nat} (hn : 3 ≤ n) (hi : i < n) : ∃ p, p < n ∧ (p + 1) % n = i ∧ p ≠ i ∧ p ≠ (i + 1) % n := by
  by_cases h : i = 0
  · subst h
    refine ⟨n - 1, by omega, ?_, by omega, ?_⟩
    · rw [show n - 1 + 1 = n by omega, Nat.mod_self]
    · rw [Nat.mod_eq_of_lt (by omega)]; omega
  · refine ⟨i - 1, by omega, ?_, by omega, ?_⟩
    · rw [show i - 1 + 1 = i by omega, Nat.mod_eq_of_lt hi]
    · by_cases h2 : i + 1 < n
      · rw [Nat.mod_eq_of_lt h2]; omega
      · rw [show i + 1 = n by omega, Nat.mod_self]; omega
/-- What lies in the cone of a corner. -/
theorem in_cone {f1x f1y f0x f0y ux uy ex ey : Int} (hd : 0 < f1x * f0y - f1y * f0x) (h1 : 0 ≤ f1x * uy - f1y * ux) (h0 : 0 ≤ ux * f0y - uy * f0x)
    (e1 : ex * f1y - ey * f1x ≤ 0) (e0 : ex * f0y - ey * f0x ≤ 0) : ex * uy - ey * ux ≤ 0 := by
  have : 0 ≤ -(ex * uy - ey * ux) := by
    apply mul_le_cancel hd
    have e : (f1x * f0y - f1y * f0x) * -(ex * uy - ey * ux) = (ux * f0y - uy * f0x) * -(ex * f1y - ey * f1x) + (f1x * uy - f1y * ux) * -(ex * f0y - ey * f0x) := by grind
    rw [e]
    have a1 : 0 ≤ (ux * f0y - uy * f0x) * -(ex * f1y - ey * f1x) := Int.mul_nonneg h0 (by omega)
    have a2 : 0 ≤ (f1x * uy - f1y * ux) * -(ex * f0y - ey * f0x) := Int.mul_nonneg h1 (by omega)
    omega
  omega
/-- The number of a place in a direction, and across it. -/
theorem cross_by {A B ux uy wx wy : Int} : (A * A + B * B) * (ux * wy - uy * wx) = (A * ux + B * uy) * (A * wy - B * wx) - (A * uy - B * ux) * (A * wx + B * wy) := by grind
theorem neg_of_scaled {N z : Int} (hN : 0 < N) (h : N * z ≤ 0) : z ≤ 0 := by
  have : 0 ≤ -z := mul_le_cancel hN (by rw [Int.mul_neg]; omega)
  omega
/-- EDGES ARE ENOUGH AS LINES. -/
theorem sep {K L : Nat → Sp} {n m : Nat} (hK : Cvx K n) (hL : Cvx L m) {A B : Int} (hAB : ¬ (A = 0 ∧ B = 0)) (h : ∀ k l, k < n → l < m → A * (K k).x + B * (K k).y ≤ A * (L l).x + B * (L l).y) : Prt K n L m ∨ Prt L m K n := by
  have hN : 0 < A * A + B * B := by
    have a1 : ∀ z : Int, 0 ≤ z * z := fun z => by
      rcases Int.le_total 0 z with h0 | h0
      · exact Int.mul_nonneg h0 h0
      · exact Int.mul_nonneg_of_nonpos_of_nonpos h0 h0
    have a2 : ∀ z : Int, z * z = 0 → z = 0 := fun z hz => by
      rcases Int.mul_eq_zero.1 hz with h0 | h0 <;> exact h0
    have := a1 A
    have := a1 B
    rcases Int.lt_or_le 0 (A * A + B * B) with h0 | h0
    · exact h0
    · exact absurd ⟨a2 A (by omega), a2 B (by omega)⟩ hAB
  obtain ⟨i, hi, him⟩ := max_at (fun k => A * (K k).x + B * (K k).y) n (by have := hK.1; omega)
  obtain ⟨j, hj, hjm⟩ := max_at (fun k => -(A * (L k).x + B * (L k).y)) m (by have := hL.1; omega)
  obtain ⟨p, hp, hpi, hp1, hp2⟩ := before hK.1 hi
  obtain ⟨q, hq, hqj, hq1, hq2⟩ := before hL.1 hj
  have hi1 : (i + 1) % n < n := Nat.mod_lt _ (by omega)
  have hj1 : (j + 1) % m < m := Nat.mod_lt _ (by omega)
  have kc := hK.2 i p hi hp hp1 hp2
  have lc := hL.2 j q hj hq hq1 hq2
  have k1 := fun k (hk : k < n) => hK.ge hi hk
  have k0 := fun k (hk : k < n) => hK.ge hp hk
  have l1 := fun k (hk : k < m) => hL.ge hj hk
  have l0 := fun k (hk : k < m) => hL.ge hq hk
  have m1 := him _ hi1
  have m0 := him _ hp
  have n1 := hjm _ hj1
  have n0 := hjm _ hq
  have hv := h i j hi hj
  simp only [hpi, hqj] at k0 l0
  -- the numbers
  have hc := cone (p1 := -(A * ((K ((i + 1) % n)).x - (K i).x) + B * ((K ((i + 1) % n)).y - (K i).y))) (q1 := A * ((K ((i + 1) % n)).y - (K i).y) - B * ((K ((i + 1) % n)).x - (K i).x))
    (p0 := -(A * ((K p).x - (K i).x) + B * ((K p).y - (K i).y))) (q0 := A * ((K p).y - (K i).y) - B * ((K p).x - (K i).x))
    (r1 := A * ((L ((j + 1) % m)).x - (L j).x) + B * ((L ((j + 1) % m)).y - (L j).y)) (s1 := A * ((L ((j + 1) % m)).y - (L j).y) - B * ((L ((j + 1) % m)).x - (L j).x))
    (r0 := A * ((L q).x - (L j).x) + B * ((L q).y - (L j).y)) (s0 := A * ((L q).y - (L j).y) - B * ((L q).x - (L j).x))
    (x := -(A * ((K i).x - (L j).x) + B * ((K i).y - (L j).y))) (y := A * ((K i).y - (L j).y) - B * ((K i).x - (L j).x))
    (by simp only [Int.mul_sub]; omega) (by simp only [Int.mul_sub]; omega) (by simp only [Int.mul_sub]; omega) (by simp only [Int.mul_sub]; omega) (by simp only [Int.mul_sub]; omega)
    (by
      have e := cross_by (A := A) (B := B) (ux := (K ((i + 1) % n)).x - (K i).x) (uy := (K ((i + 1) % n)).y - (K i).y) (wx := (K p).x - (K i).x) (wy := (K p).y - (K i).y)
      have := Int.mul_pos hN kc
      unfold sd at this
      grind)
    (by
      have e := cross_by (A := A) (B := B) (ux := (L ((j + 1) % m)).x - (L j).x) (uy := (L ((j + 1) % m)).y - (L j).y) (wx := (L q).x - (L j).x) (wy := (L q).y - (L j).y)
      have := Int.mul_pos hN lc
      unfold sd at this
      grind)
  clear him hjm m1 m0 n1 n0 hv h
  unfold sd at kc lc k1 k0 l1 l0
  unfold Prt sd
  generalize hKi : K ((i + 1) % n) = Ki at *
  generalize hLi : L ((j + 1) % m) = Li at *
  rcases hc with ⟨h1, h2, h3⟩ | ⟨h1, h2, h3⟩ | ⟨h1, h2, h3⟩ | ⟨h1, h2, h3⟩
  · refine .inl ⟨i, hi, fun l hl => ?_⟩
    have a1 := l1 l hl
    have a0 := l0 l hl
    have c1 : (Ki.x - (K i).x) * (Li.y - (L j).y) - (Ki.y - (K i).y) * (Li.x - (L j).x) ≤ 0 := neg_of_scaled hN (by rw [cross_by]; grind)
    have c0 : (Ki.x - (K i).x) * ((L q).y - (L j).y) - (Ki.y - (K i).y) * ((L q).x - (L j).x) ≤ 0 := neg_of_scaled hN (by rw [cross_by]; grind)
    have cv : (Ki.y - (K i).y) * ((K i).x - (L j).x) - (Ki.x - (K i).x) * ((K i).y - (L j).y) ≤ 0 := neg_of_scaled hN (by
      have := cross_by (A := A) (B := B) (ux := Ki.x - (K i).x) (uy := Ki.y - (K i).y) (wx := (K i).x - (L j).x) (wy := (K i).y - (L j).y)
      grind)
    have := in_cone (f1x := Li.x - (L j).x) (f1y := Li.y - (L j).y) (f0x := (L q).x - (L j).x) (f0y := (L q).y - (L j).y) (ux := (L l).x - (L j).x) (uy := (L l).y - (L j).y) lc (by grind) (by grind) c1 c0
    rw [hKi]
    grind
  · refine .inl ⟨p, hp, fun l hl => ?_⟩
    rw [hpi]
    have a1 := l1 l hl
    have a0 := l0 l hl
    have c1 : ((K i).x - (K p).x) * (Li.y - (L j).y) - ((K i).y - (K p).y) * (Li.x - (L j).x) ≤ 0 := neg_of_scaled hN (by rw [cross_by]; grind)
    have c0 : ((K i).x - (K p).x) * ((L q).y - (L j).y) - ((K i).y - (K p).y) * ((L q).x - (L j).x) ≤ 0 := neg_of_scaled hN (by rw [cross_by]; grind)
    have cv : ((K p).x - (K i).x) * ((K i).y - (L j).y) - ((K p).y - (K i).y) * ((K i).x - (L j).x) ≤ 0 := neg_of_scaled hN (by rw [cross_by]; grind)
    have := in_cone (f1x := Li.x - (L j).x) (f1y := Li.y - (L j).y) (f0x := (L q).x - (L j).x) (f0y := (L q).y - (L j).y) (ux := (L l).x - (L j).x) (uy := (L l).y - (L j).y) lc (by grind) (by grind) c1 c0
    grind
  · refine .inr ⟨j, hj, fun k hk => ?_⟩
    have a1 := k1 k hk
    have a0 := k0 k hk
    have c1 : (Li.x - (L j).x) * (Ki.y - (K i).y) - (Li.y - (L j).y) * (Ki.x - (K i).x) ≤ 0 := neg_of_scaled hN (by rw [cross_by]; grind)
    have c0 : (Li.x - (L j).x) * ((K p).y - (K i).y) - (Li.y - (L j).y) * ((K p).x - (K i).x) ≤ 0 := neg_of_scaled hN (by rw [cross_by]; grind)
    have cv : (Li.x - (L j).x) * ((K i).y - (L j).y) - (Li.y - (L j).y) * ((K i).x - (L j).x) ≤ 0 := neg_of_scaled hN (by rw [cross_by]; grind)
    have := in_cone (f1x := Ki.x - (K i).x) (f1y := Ki.y - (K i).y) (f0x := (K p).x - (K i).x) (f0y := (K p).y - (K i).y) (ux := (K k).x - (K i).x) (uy := (K k).y - (K i).y) kc (by grind) (by grind) c1 c0
    rw [hLi]
    grind
  · refine .inr ⟨q, hq, fun k hk => ?_⟩
    rw [hqj]
    have a1 := k1 k hk
    have a0 := k0 k hk
    have c1 : ((L j).x - (L q).x) * (Ki.y - (K i).y) - ((L j).y - (L q).y) * (Ki.x - (K i).x) ≤ 0 := neg_of_scaled hN (by rw [cross_by]; grind)
    have c0 : ((L j).x - (L q).x) * ((K p).y - (K i).y) - ((L j).y - (L q).y) * ((K p).x - (K i).x) ≤ 0 := neg_of_scaled hN (by rw [cross_by]; grind)
    have cv : ((L j).x - (L q).x) * ((K i).y - (L j).y) - ((L j).y - (L q).y) * ((K i).x - (L j).x) ≤ 0 := neg_of_scaled hN (by rw [cross_by]; grind)
    have := in_cone (f1x := Ki.x - (K i).x) (f1y := Ki.y - (K i).y) (f0x := (K p).x - (K i).x) (f0y := (K p).y - (K i).y) (ux := (K k).x - (K i).x) (uy := (K k).y - (K i).y) kc (by grind) (by grind) c1 c0
    grind
end Go.Proofs.Yteilglljigjefaa

/- Poses: what follows what, in lowest terms, and how large. Plain Lean. -/
namespace Go.Proofs.Yteilglljigjefaa
/-- A hinge: two places and an angle. -/
structure Hg where
  a : Sp
  b : Sp
  ang : Int
  deriving DecidableEq
/-- A pose. -/
structure Ps where
  p : Int
  q : Int
  x : Int
  y : Int
  d : Int
  deriving DecidableEq
/-- The angles: P, Q, R of each. -/
def turns : List (Int × Int × Int) := [(-1, 0, 1), (0, -1, 1), (0, 1, 1), (1, 0, 1), (-4, -3, 5), (-4, 3, 5), (-3, -4, 5), (-3, 4, 5), (3, -4, 5), (3, 4, 5), (4, -3, 5), (4, 3, 5),
  (-12, -5, 13), (-12, 5, 13), (-5, -12, 13), (-5, 12, 13), (5, -12, 13), (5, 12, 13), (12, -5, 13), (12, 5, 13),
  (-15, -8, 17), (-15, 8, 17), (-8, -15, 17), (-8, 15, 17), (8, -15, 17), (8, 15, 17), (15, -8, 17), (15, 8, 17),
  (-24, -7, 25), (-24, 7, 25), (-7, -24, 25), (-7, 24, 25), (7, -24, 25), (7, 24, 25), (24, -7, 25), (24, 7, 25)]
def trn (n : Nat) : Int × Int × Int := turns.getD n (1, 0, 1)
/-- Where a place of a panel with a pose is, times D. -/
def plc (p : Ps) (s : Sp) : Sp := ⟨p.p * s.x - p.q * s.y + p.x, p.q * s.x + p.p * s.y + p.y⟩
def g5 (p : Ps) : Nat := Nat.gcd (Nat.gcd (Nat.gcd (Nat.gcd p.p.natAbs p.q.natAbs) p.x.natAbs) p.y.natAbs) p.d.natAbs
/-- The next pose, before it is divided. -/
def raw (p : Ps) (h : Hg) (t : Int × Int × Int) : Ps :=
  let o : Ps := ⟨t.1 * p.p - t.2.1 * p.q, t.2.1 * p.p + t.1 * p.q, 0, 0, t.2.2 * p.d⟩
  ⟨o.p, o.q, t.2.2 * (plc p h.a).x - (plc o h.b).x, t.2.2 * (plc p h.a).y - (plc o h.b).y, o.d⟩
def low (p : Ps) : Ps := ⟨p.p / (g5 p : Int), p.q / (g5 p : Int), p.x / (g5 p : Int), p.y / (g5 p : Int), p.d / (g5 p : Int)⟩
def flw (p : Ps) (h : Hg) (t : Int × Int × Int) : Ps := low (raw p h t)
def pose0 : Ps := ⟨1, 0, 0, 0, 1⟩
def hg0 : Hg := ⟨⟨0, 0⟩, ⟨0, 0⟩, 0⟩
/-- The poses of a linkage, panel by panel. -/
def posF (hs : List Hg) : Nat → Ps
  | 0 => pose0
  | k + 1 => flw (posF hs k) (hs.getD k hg0) (trn (hs.getD k hg0).ang.toNat)
def spotB (s : Sp) : Prop := (-50 ≤ s.x ∧ s.x ≤ 50) ∧ -50 ≤ s.y ∧ s.y ≤ 50
instance (s : Sp) : Decidable (spotB s) := by unfold spotB; infer_instance
def hingeB (h : Hg) : Prop := spotB h.a ∧ spotB h.b ∧ 0 ≤ h.ang ∧ h.ang ≤ 35
instance (h : Hg) : Decidable (hingeB h) := by unfold hingeB; infer_instance
/-- What holds of a pose behind k hinges. -/
structure PoseOk (p : Ps) (k : Nat) : Prop where
  d0 : 0 < p.d
  d1 : p.d ≤ 25 ^ k
  pq : p.p * p.p + p.q * p.q = p.d * p.d
  x0 : -(200 * k * p.d) ≤ p.x
  x1 : p.x ≤ 200 * k * p.d
  y0 : -(200 * k * p.d) ≤ p.y
  y1 : p.y ≤ 200 * k * p.d
theorem turns_ok : ∀ n : Nat, n < 36 → 1 ≤ (trn n).2.2 ∧ (trn n).2.2 ≤ 25 ∧ (trn n).1 * (trn n).1 + (trn n).2.1 * (trn n).2.1 = (trn n).2.2 * (trn n).2.2 := by decide
theorem abs_le_of_sq {p q d : Int} (hd : 0 < d) (h : p * p + q * q = d * d) : -d ≤ p ∧ p ≤ d ∧ -d ≤ q ∧ q ≤ d := by
  have sq : ∀ a b : Int, a * a + b * b = d * d → a ≤ d := fun a b h => by
    rcases Int.lt_or_le d a with h0 | h0
    · have h1 : d * d < a * a := Int.mul_lt_mul h0 (by omega) hd (by omega)
      have h2 : 0 ≤ b * b := by
        rcases Int.le_total 0 b with hb | hb
        · exact Int.mul_nonneg hb hb
        · exact Int.mul_nonneg_of_nonpos_of_nonpos hb hb
      omega
    · exact h0
  have a1 := sq p q h
  have a2 := sq (-p) q (by grind)
  have a3 := sq q p (by grind)
  have a4 := sq (-q) p (by grind)
  omega
theorem PoseOk.le {p : Ps} {k : Nat} (h : PoseOk p k) : -p.d ≤ p.p ∧ p.p ≤ p.d ∧ -p.d ≤ p.q ∧ p.q ≤ p.d := abs_le_of_sq h.d0 h.pq
theorem prod_le {a d s m : Int} (h1 : -d ≤ a) (h2 : a ≤ d) (h3 : -m ≤ s) (h4 : s ≤ m) : -(d * m) ≤ a * s ∧ a * s ≤ d * m := by
  have a1 : 0 ≤ (d - a) * (m + s) := Int.mul_nonneg (by omega) (by omega)
  have a2 : 0 ≤ (d + a) * (m - s) := Int.mul_nonneg (by omega) (by omega)
  have a3 : 0 ≤ (d + a) * (m + s) := Int.mul_nonneg (by omega) (by omega)
  have a4 : 0 ≤ (d - a) * (m - s) := Int.mul_nonneg (by omega) (by omega)
  constructor <;> grind
theorem PoseOk.plc {p : Ps} {k : Nat} (h : PoseOk p k) {s : Sp} (hs : spotB s) : -((200 * k + 100) * p.d) ≤ (plc p s).x ∧ (plc p s).x ≤ (200 * k + 100) * p.d ∧ -((200 * k + 100) * p.d) ≤ (plc p s).y ∧ (plc p s).y ≤ (200 * k + 100) * p.d := by
  obtain ⟨a1, a2, a3, a4⟩ := h.le
  have h1 := prod_le a1 a2 hs.1.1 hs.1.2
  have h2 := prod_le a3 a4 hs.2.1 hs.2.2
  have h3 := prod_le a3 a4 hs.1.1 hs.1.2
  have h4 := prod_le a1 a2 hs.2.1 hs.2.2
  have := h.x0
  have := h.x1
  have := h.y0
  have := h.y1
  unfold Yteilglljigjefaa.plc
  simp only [Int.add_mul]
  omega
theorem low_eq (p : Ps) : p.p = (g5 p : Int) * (low p).p ∧ p.q = (g5 p : Int) * (low p).q ∧ p.x = (g5 p : Int) * (low p).x ∧ p.y = (g5 p : Int) * (low p).y ∧ p.d = (g5 p : Int) * (low p).d := by
  have e1 : (g5 p : Int) ∣ p.p := Int.ofNat_dvd_left.2 (Nat.dvd_trans (Nat.gcd_dvd_left ..) (Nat.dvd_trans (Nat.gcd_dvd_left ..) (Nat.dvd_trans (Nat.gcd_dvd_left ..) (Nat.gcd_dvd_left ..))))
  have e2 : (g5 p : Int) ∣ p.q := Int.ofNat_dvd_left.2 (Nat.dvd_trans (Nat.gcd_dvd_left ..) (Nat.dvd_trans (Nat.gcd_dvd_left ..) (Nat.dvd_trans (Nat.gcd_dvd_left ..) (Nat.gcd_dvd_right ..))))
  have e3 : (g5 p : Int) ∣ p.x := Int.ofNat_dvd_left.2 (Nat.dvd_trans (Nat.gcd_dvd_left ..) (Nat.dvd_trans (Nat.gcd_dvd_left ..) (Nat.gcd_dvd_right ..)))
  have e4 : (g5 p : Int) ∣ p.y := Int.ofNat_dvd_left.2 (Nat.dvd_trans (Nat.gcd_dvd_left ..) (Nat.gcd_dvd_right ..))
  have e5 : (g5 p : Int) ∣ p.d := Int.ofNat_dvd_left.2 (Nat.gcd_dvd_right ..)
  unfold low
  exact ⟨(Int.mul_ediv_cancel' e1).symm, (Int.mul_ediv_cancel' e2).symm, (Int.mul_ediv_cancel' e3).symm, (Int.mul_ediv_cancel' e4).symm, (Int.mul_ediv_cancel' e5).symm⟩
theorem g5_pos {p : Ps} (h : 0 < p.d) : 0 < (g5 p : Int) := by
  have : 0 < g5 p := Nat.gcd_pos_of_pos_right _ (by omega)
  omega
theorem le_cancel {t a b : Int} (ht : 0 < t) (h : t * a ≤ t * b) : a ≤ b := Int.le_of_mul_le_mul_left h ht
theorem PoseOk.low {p : Ps} {k : Nat} (h : PoseOk p k) : PoseOk (low p) k := by
  obtain ⟨e1, e2, e3, e4, e5⟩ := low_eq p
  have hg := g5_pos h.d0
  have hd : 0 < (Yteilglljigjefaa.low p).d := by
    rcases Int.lt_or_le 0 (Yteilglljigjefaa.low p).d with h0 | h0
    · exact h0
    · have := Int.mul_nonneg (Int.le_of_lt hg) (show 0 ≤ -(Yteilglljigjefaa.low p).d by omega)
      have := h.d0
      rw [Int.mul_neg] at *
      omega
  have hpq := h.pq
  have hx0 := h.x0
  have hx1 := h.x1
  have hy0 := h.y0
  have hy1 := h.y1
  have hd1 := h.d1
  rw [e1, e2, e5] at hpq
  rw [e3, e5] at hx0 hx1
  rw [e4, e5] at hy0 hy1
  rw [e5] at hd1
  generalize Yteilglljigjefaa.low p = r at *
  generalize (g5 p : Int) = g at *
  refine ⟨hd, ?_, ?_, ?_, ?_, ?_, ?_⟩
  · have : 0 ≤ (g - 1) * r.d := Int.mul_nonneg (by omega) (by omega)
    rw [Int.sub_mul] at this
    omega
  · have hgg : 0 < g * g := Int.mul_pos hg hg
    refine Int.eq_of_mul_eq_mul_left (a := g * g) (by omega) ?_
    grind
  · exact le_cancel hg (by grind)
  · exact le_cancel hg (by grind)
  · exact le_cancel hg (by grind)
  · exact le_cancel hg (by grind)
theorem raw_ok {p : Ps} {k : Nat} (h : PoseOk p k) {hg : Hg} (hh : hingeB hg) {n : Nat} (hn : n < 36) : PoseOk (raw p hg (trn n)) (k + 1) := by
  obtain ⟨t1, t2, t3⟩ := turns_ok n hn
  generalize trn n = t at *
  obtain ⟨ta, tb, tr⟩ := t
  simp only at t1 t2 t3
  obtain ⟨c1, c2, c3, c4⟩ := h.plc hh.1
  have ho : PoseOk ⟨ta * p.p - tb * p.q, tb * p.p + ta * p.q, 0, 0, tr * p.d⟩ (k + 1) := by
    have hd : 0 < tr * p.d := Int.mul_pos (by omega) h.d0
    have hk : 0 ≤ 200 * ((k + 1 : Nat) : Int) * (tr * p.d) := Int.mul_nonneg (by omega) (by omega)
    refine ⟨hd, ?_, ?_, ?_, ?_, ?_, ?_⟩
    · have h1 := h.d1
      have h2 : (25 : Int) ^ (k + 1) = 25 * 25 ^ k := by rw [Int.pow_succ]; omega
      simp only
      rw [h2]
      exact Int.mul_le_mul t2 h1 (Int.le_of_lt h.d0) (by omega)
    · have := h.pq
      simp only
      have e : (ta * p.p - tb * p.q) * (ta * p.p - tb * p.q) + (tb * p.p + ta * p.q) * (tb * p.p + ta * p.q) = (ta * ta + tb * tb) * (p.p * p.p + p.q * p.q) := by grind
      rw [e, t3, this]
      grind
    all_goals simp only; omega
  obtain ⟨a1, a2, a3, a4⟩ := ho.le
  simp only at a1 a2 a3 a4
  have h1 := prod_le a1 a2 hh.2.1.1.1 hh.2.1.1.2
  have h2 := prod_le a3 a4 hh.2.1.2.1 hh.2.1.2.2
  have h3 := prod_le a3 a4 hh.2.1.1.1 hh.2.1.1.2
  have h4 := prod_le a1 a2 hh.2.1.2.1 hh.2.1.2.2
  have m1 := Int.mul_le_mul_of_nonneg_left c2 (show 0 ≤ tr by omega)
  have m2 := Int.mul_le_mul_of_nonneg_left c1 (show 0 ≤ tr by omega)
  have m3 := Int.mul_le_mul_of_nonneg_left c4 (show 0 ≤ tr by omega)
  have m4 := Int.mul_le_mul_of_nonneg_left c3 (show 0 ≤ tr by omega)
  have ek : 200 * ((k + 1 : Nat) : Int) * (tr * p.d) = tr * ((200 * k + 100) * p.d) + 100 * (tr * p.d) := by grind
  have hd := ho.d0
  refine ⟨ho.d0, ho.d1, ho.pq, ?_, ?_, ?_, ?_⟩ <;> simp only [raw, Yteilglljigjefaa.plc, ek] at * <;> grind
theorem flw_ok {p : Ps} {k : Nat} (h : PoseOk p k) {hg : Hg} (hh : hingeB hg) {n : Nat} (hn : n < 36) : PoseOk (flw p hg (trn n)) (k + 1) := (raw_ok h hh hn).low
theorem pose0_ok : PoseOk pose0 0 := by
  refine ⟨?_, ?_, ?_, ?_, ?_, ?_, ?_⟩ <;> decide
theorem posF_ok {hs : List Hg} (hh : ∀ h ∈ hs, hingeB h) : ∀ k, k ≤ hs.length → PoseOk (posF hs k) k
  | 0, _ => pose0_ok
  | k + 1, hk => by
    have e : hs.getD k hg0 = hs[k] := by simp [List.getD, List.getElem?_eq_getElem (show k < hs.length by omega)]
    have hb := hh _ (List.getElem_mem (show k < hs.length by omega))
    rw [posF, e]
    exact flw_ok (posF_ok hh k (by omega)) hb (by have := hb.2.2; omega)
end Go.Proofs.Yteilglljigjefaa

/- Panels apart: lines of edges, lines between, a corner less. Plain Lean. -/
namespace Go.Proofs.Yteilglljigjefaa
def s0 : Sp := ⟨0, 0⟩
/-- Above 0 if c / e is to the left of the edge from a / d to b / d. -/
def sideS (a b : Sp) (d : Int) (c : Sp) (e : Int) : Int := (b.x - a.x) * (c.y * d - a.y * e) - (b.y - a.y) * (c.x * d - a.x * e)
/-- An edge of K / d has all of L / e on its line or to the right. -/
def Ptd (K : Nat → Sp) (n : Nat) (d : Int) (L : Nat → Sp) (m : Nat) (e : Int) : Prop := ∃ i, i < n ∧ ∀ j, j < m → sideS (K i) (K ((i + 1) % n)) d (L j) e ≤ 0
def scl (t : Int) (s : Sp) : Sp := ⟨t * s.x, t * s.y⟩
theorem sd_scl (a b c : Sp) (d e : Int) : sd (scl e a) (scl e b) (scl d c) = e * sideS a b d c e := by unfold sd scl sideS; grind
theorem sd_scl1 (a b c : Sp) (e : Int) : sd (scl e a) (scl e b) (scl e c) = (e * e) * sd a b c := by unfold sd scl; grind
theorem Cvx.scl {K : Nat → Sp} {n : Nat} (h : Cvx K n) {e : Int} (he : 0 < e) : Cvx (fun i => scl e (K i)) n := ⟨h.1, fun i k hi hk h1 h2 => by
  simp only
  rw [sd_scl1]
  exact Int.mul_pos (Int.mul_pos he he) (h.2 i k hi hk h1 h2)⟩
theorem le_scl {t z : Int} (ht : 0 < t) : t * z ≤ 0 ↔ z ≤ 0 := ⟨fun h => neg_of_scaled ht h, fun h => by
  have := Int.mul_nonneg (Int.le_of_lt ht) (show 0 ≤ -z by omega)
  rw [Int.mul_neg] at this
  omega⟩
theorem prt_scl {K L : Nat → Sp} {n m : Nat} {d e : Int} (he : 0 < e) : Prt (fun i => scl e (K i)) n (fun j => scl d (L j)) m ↔ Ptd K n d L m e := by
  unfold Prt Ptd
  simp only [sd_scl, le_scl he]
/-- Edges are enough as lines, with numbers to divide by. -/
theorem sep_d {K L : Nat → Sp} {n m : Nat} {d e : Int} (hK : Cvx K n) (hL : Cvx L m) (hd : 0 < d) (he : 0 < e) {A B : Int} (hAB : ¬ (A = 0 ∧ B = 0))
    (h : ∀ k l, k < n → l < m → (A * (K k).x + B * (K k).y) * e ≤ (A * (L l).x + B * (L l).y) * d) : Ptd K n d L m e ∨ Ptd L m e K n d := by
  rw [← prt_scl he, ← prt_scl hd]
  refine sep (hK.scl he) (hL.scl hd) hAB fun k l hk hl => ?_
  have := h k l hk hl
  simp only [scl]
  grind
/-- A line that is between. -/
def Btw (A B C E : Int) (K : Nat → Sp) (n : Nat) (d : Int) (L : Nat → Sp) (m : Nat) (e : Int) : Prop :=
  (∀ k, k < n → E * (A * (K k).x + B * (K k).y) ≤ C * d) ∧ ∀ l, l < m → C * e ≤ E * (A * (L l).x + B * (L l).y)
theorem Btw.sep {K L : Nat → Sp} {n m : Nat} {d e A B C E : Int} (h : Btw A B C E K n d L m e) (hE : 0 < E) (hd : 0 < d) (he : 0 < e) (k l : Nat) (hk : k < n) (hl : l < m) :
    (A * (K k).x + B * (K k).y) * e ≤ (A * (L l).x + B * (L l).y) * d := by
  have h1 := Int.mul_le_mul_of_nonneg_left (h.1 k hk) (Int.le_of_lt he)
  have h2 := Int.mul_le_mul_of_nonneg_left (h.2 l hl) (Int.le_of_lt hd)
  refine le_cancel hE ?_
  grind
theorem Btw.ptd {K L : Nat → Sp} {n m : Nat} {d e A B C E : Int} (h : Btw A B C E K n d L m e) (hK : Cvx K n) (hL : Cvx L m) (hE : 0 < E) (hd : 0 < d) (he : 0 < e) (hAB : ¬ (A = 0 ∧ B = 0)) : Ptd K n d L m e ∨ Ptd L m e K n d :=
  sep_d hK hL hd he hAB fun k l hk hl => h.sep hE hd he k l hk hl
/-- For each edge a corner of the other one that is inside of it. -/
theorem not_ptd {K L : Nat → Sp} {n m : Nat} {d e : Int} : ¬ Ptd K n d L m e ↔ ∀ i, i < n → ∃ j, j < m ∧ 0 < sideS (K i) (K ((i + 1) % n)) d (L j) e := by
  unfold Ptd
  constructor
  · intro h i hi
    apply Classical.byContradiction
    intro hc
    refine h ⟨i, hi, fun j hj => ?_⟩
    apply Classical.byContradiction
    intro hlt
    exact hc ⟨j, hj, by omega⟩
  · rintro h ⟨i, hi, hj⟩
    obtain ⟨j, hjm, h0⟩ := h i hi
    have := hj j hjm
    omega
/-- The line of an edge of K is between. -/
theorem btw_edge {K L : Nat → Sp} {n m : Nat} {d e : Int} (hK : Cvx K n) (hd : 0 < d) {i : Nat} (hi : i < n) (h : ∀ j, j < m → sideS (K i) (K ((i + 1) % n)) d (L j) e ≤ 0) :
    Btw ((K ((i + 1) % n)).y - (K i).y) ((K i).x - (K ((i + 1) % n)).x) (((K ((i + 1) % n)).y - (K i).y) * (K i).x + ((K i).x - (K ((i + 1) % n)).x) * (K i).y) d K n d L m e := by
  refine ⟨fun k hk => ?_, fun l hl => ?_⟩
  · have h1 := Int.mul_nonneg (Int.le_of_lt hd) (hK.ge hi hk)
    unfold sd at h1
    grind
  · have h1 := h l hl
    unfold sideS at h1
    grind
theorem btw_edge2 {K L : Nat → Sp} {n m : Nat} {d e : Int} (hK : Cvx K n) (hd : 0 < d) {i : Nat} (hi : i < n) (h : ∀ j, j < m → sideS (K i) (K ((i + 1) % n)) d (L j) e ≤ 0) :
    Btw (-((K ((i + 1) % n)).y - (K i).y)) (-((K i).x - (K ((i + 1) % n)).x)) (-((K ((i + 1) % n)).y - (K i).y) * (K i).x + -((K i).x - (K ((i + 1) % n)).x) * (K i).y) d L m e K n d := by
  refine ⟨fun l hl => ?_, fun k hk => ?_⟩
  · have h1 := h l hl
    unfold sideS at h1
    grind
  · have h1 := Int.mul_nonneg (Int.le_of_lt hd) (hK.ge hi hk)
    unfold sd at h1
    grind
/-- The ends of an edge are two places. -/
theorem edge_ne {K : Nat → Sp} {n : Nat} (hK : Cvx K n) {i : Nat} (hi : i < n) : ¬ ((K ((i + 1) % n)).y - (K i).y = 0 ∧ (K i).x - (K ((i + 1) % n)).x = 0) := by
  rintro ⟨h1, h2⟩
  obtain ⟨p, hp, hpi, hp1, hp2⟩ := before hK.1 hi
  have := hK.2 i p hi hp hp1 hp2
  unfold sd at this
  rw [h1, show (K ((i + 1) % n)).x - (K i).x = 0 by omega] at this
  simp at this
/-- Posed panels are convex. -/
theorem sd_plc (p : Ps) (a b c : Sp) : sd (plc p a) (plc p b) (plc p c) = (p.p * p.p + p.q * p.q) * sd a b c := by unfold sd plc; grind
theorem Cvx.plc {K : Nat → Sp} {n : Nat} (h : Cvx K n) {p : Ps} {k : Nat} (hp : PoseOk p k) : Cvx (fun i => plc p (K i)) n := ⟨h.1, fun i k hi hk h1 h2 => by
  simp only
  rw [sd_plc, hp.pq]
  exact Int.mul_pos (Int.mul_pos hp.d0 hp.d0) (h.2 i k hi hk h1 h2)⟩
/-- A corner less. -/
theorem skip_left {K : Nat → Sp} {n : Nat} (h : Cvx K n) {a i b k : Nat} (ha : a < n) (hi : i < n) (hb : b < n) (hk : k < n) (h1 : (a + 1) % n = i) (h2 : (i + 1) % n = b) (hab : a ≠ b) (hai : a ≠ i) (hbi : b ≠ i) (k1 : k ≠ a) (k2 : k ≠ i) (k3 : k ≠ b) : 0 < sd (K a) (K b) (K k) := by
  apply Classical.byContradiction
  intro hc
  have hk' : (k + 1) % n < n := Nat.mod_lt _ (by omega)
  have g1 := h.2 a k ha hk k1 (by omega)
  have g2 := h.2 i k hi hk k2 (by omega)
  have ga := h.ge hk ha
  have gi := h.ge hk hi
  have gb := h.ge hk hb
  have za : a ≠ (k + 1) % n → 0 < sd (K k) (K ((k + 1) % n)) (K a) := fun hne => h.2 k a hk ha (by omega) hne
  have zb : b ≠ (k + 1) % n → 0 < sd (K k) (K ((k + 1) % n)) (K b) := fun hne => h.2 k b hk hb (by omega) hne
  rw [h1] at g1
  rw [h2] at g2
  generalize K ((k + 1) % n) = k' at *
  have e : sd (K i) (K b) (K k) * sd (K k) k' (K a) + -sd (K a) (K b) (K k) * sd (K k) k' (K i) + sd (K a) (K i) (K k) * sd (K k) k' (K b) = 0 := by unfold sd; grind
  have p1 := Int.mul_nonneg (show 0 ≤ -sd (K a) (K b) (K k) by omega) gi
  have p2 := Int.mul_nonneg (Int.le_of_lt g2) ga
  have p3 := Int.mul_nonneg (Int.le_of_lt g1) gb
  by_cases hak : a = (k + 1) % n
  · have hbk : b ≠ (k + 1) % n := by omega
    have := Int.mul_pos g1 (zb hbk)
    omega
  · have := Int.mul_pos g2 (za hak)
    omega
end Go.Proofs.Yteilglljigjefaa

/- Quarter turns, and a linkage from its other end. Plain Lean. -/
namespace Go.Proofs.Yteilglljigjefaa
/-! ### Quarter turns -/
def qtr (s : Sp) : Sp := ⟨-s.y, s.x⟩
def qtrP (p : Ps) : Ps := ⟨p.p, p.q, -p.y, p.x, p.d⟩
def qtrH (h : Hg) : Hg := ⟨qtr h.a, qtr h.b, h.ang⟩
theorem plc_qtr (p : Ps) (s : Sp) : plc (qtrP p) (qtr s) = qtr (plc p s) := by simp only [plc, qtrP, qtr, Sp.mk.injEq]; constructor <;> grind
theorem g5_qtr (p : Ps) : g5 (qtrP p) = g5 p := by
  unfold g5 qtrP
  simp only [Int.natAbs_neg]
  rw [Nat.gcd_assoc (Nat.gcd p.p.natAbs p.q.natAbs) p.y.natAbs, Nat.gcd_comm p.y.natAbs, ← Nat.gcd_assoc]
theorem low_qtr (p : Ps) : low (qtrP p) = qtrP (low p) := by
  have h := (low_eq p).2.2.2.1
  unfold low
  rw [g5_qtr]
  simp only [qtrP, Ps.mk.injEq, true_and, and_true]
  exact Int.neg_ediv_of_dvd ⟨_, h⟩
theorem raw_qtr (p : Ps) (h : Hg) (t : Int × Int × Int) : raw (qtrP p) (qtrH h) t = qtrP (raw p h t) := by
  simp only [raw, qtrP, qtrH, qtr, plc, Ps.mk.injEq, true_and, and_true]
  constructor <;> grind
theorem posF_qtr (hs : List Hg) : ∀ k, posF (hs.map qtrH) k = qtrP (posF hs k)
  | 0 => rfl
  | k + 1 => by
    have e : (hs.map qtrH).getD k hg0 = qtrH (hs.getD k hg0) := by
      by_cases hk : k < hs.length
      · simp [List.getD, hk]
      · simp [List.getD, hk, hg0, qtrH, qtr]
    rw [posF, posF, e, posF_qtr hs k, flw, flw, ← low_qtr, ← raw_qtr]
    rfl
theorem sideS_qtr (a b c : Sp) (d e : Int) : sideS (qtr a) (qtr b) d (qtr c) e = sideS a b d c e := by unfold sideS qtr; grind
theorem ptd_qtr {K L : Nat → Sp} {n m : Nat} {d e : Int} : Ptd (fun i => qtr (K i)) n d (fun i => qtr (L i)) m e ↔ Ptd K n d L m e := by
  unfold Ptd
  simp only [sideS_qtr]
/-! ### From the other end -/
def RelG (g N M : Ps) : Prop := M.p * (g.d * N.d) = (g.p * N.p - g.q * N.q) * M.d ∧ M.q * (g.d * N.d) = (g.q * N.p + g.p * N.q) * M.d ∧
  M.x * (g.d * N.d) = (g.p * N.x - g.q * N.y + N.d * g.x) * M.d ∧ M.y * (g.d * N.d) = (g.q * N.x + g.p * N.y + N.d * g.y) * M.d
theorem RelG.of_low {g N M : Ps} (h : RelG g N (low M)) : RelG g N M := by
  obtain ⟨e1, e2, e3, e4, e5⟩ := low_eq M
  obtain ⟨h1, h2, h3, h4⟩ := h
  refine ⟨?_, ?_, ?_, ?_⟩
  · rw [e1, e5]; grind
  · rw [e2, e5]; grind
  · rw [e3, e5]; grind
  · rw [e4, e5]; grind
theorem RelG.low {g N M : Ps} (hN : 0 < N.d) (h : RelG g N M) : RelG g (low N) M := by
  obtain ⟨e1, e2, e3, e4, e5⟩ := low_eq N
  have hg := g5_pos hN
  obtain ⟨h1, h2, h3, h4⟩ := h
  generalize Yteilglljigjefaa.low N = r at *
  generalize (g5 N : Int) = t at *
  rw [e1, e2, e5] at h1 h2
  rw [e3, e4, e5] at h3 h4
  refine ⟨?_, ?_, ?_, ?_⟩ <;> refine Int.eq_of_mul_eq_mul_left (a := t) (by omega) ?_ <;> grind
theorem RelG.step {g N M : Ps} {h : Hg} {t1 t2 r : Int} (hr : 0 < r) (ht : t1 * t1 + t2 * t2 = r * r) {m : Int} (hh : RelG g N (raw M h (t1, t2, r))) : RelG g (raw N ⟨h.b, h.a, m⟩ (t1, -t2, r)) M := by
  obtain ⟨h1, h2, h3, h4⟩ := hh
  simp only [raw, plc, Int.add_zero] at h1 h2 h3 h4
  obtain ⟨⟨ax, ay⟩, ⟨bx, bY⟩, ang⟩ := h
  simp only at h1 h2 h3 h4
  have k1 : M.p * (g.d * (r * N.d)) = (g.p * (t1 * N.p - -t2 * N.q) - g.q * (-t2 * N.p + t1 * N.q)) * M.d := by
    refine Int.eq_of_mul_eq_mul_left (a := r) (by omega) ?_
    have e1 : r * (M.p * (g.d * (r * N.d))) = (r * r) * (M.p * (g.d * N.d)) := by clear h1 h2 h3 h4 ht; grind
    have e2 : (t1 * t1 + t2 * t2) * (M.p * (g.d * N.d)) = t1 * ((t1 * M.p - t2 * M.q) * (g.d * N.d)) + t2 * ((t2 * M.p + t1 * M.q) * (g.d * N.d)) := by clear h1 h2 h3 h4 ht e1; grind
    rw [e1, ← ht, e2, h1, h2]
    clear h1 h2 h3 h4 ht e1 e2
    grind
  have k2 : M.q * (g.d * (r * N.d)) = (g.q * (t1 * N.p - -t2 * N.q) + g.p * (-t2 * N.p + t1 * N.q)) * M.d := by
    refine Int.eq_of_mul_eq_mul_left (a := r) (by omega) ?_
    have e1 : r * (M.q * (g.d * (r * N.d))) = (r * r) * (M.q * (g.d * N.d)) := by clear h1 h2 h3 h4 ht; grind
    have e2 : (t1 * t1 + t2 * t2) * (M.q * (g.d * N.d)) = t1 * ((t2 * M.p + t1 * M.q) * (g.d * N.d)) - t2 * ((t1 * M.p - t2 * M.q) * (g.d * N.d)) := by clear h1 h2 h3 h4 ht e1; grind
    rw [e1, ← ht, e2, h1, h2]
    clear h1 h2 h3 h4 ht e1 e2
    grind
  refine ⟨k1, k2, ?_, ?_⟩
  · simp only [raw, plc, Int.add_zero]
    have e : M.x * (g.d * (r * N.d)) = (r * (M.p * ax - M.q * ay + M.x) - ((t1 * M.p - t2 * M.q) * bx - (t2 * M.p + t1 * M.q) * bY)) * (g.d * N.d) - (M.p * (g.d * (r * N.d))) * ax + (M.q * (g.d * (r * N.d))) * ay + ((t1 * M.p - t2 * M.q) * (g.d * N.d)) * bx - ((t2 * M.p + t1 * M.q) * (g.d * N.d)) * bY := by clear h1 h2 h3 h4 ht k1 k2; grind
    rw [e, h3, k1, k2, h1, h2]
    clear h1 h2 h3 h4 ht k1 k2 e
    grind
  · simp only [raw, plc, Int.add_zero]
    have e : M.y * (g.d * (r * N.d)) = (r * (M.q * ax + M.p * ay + M.y) - ((t2 * M.p + t1 * M.q) * bx + (t1 * M.p - t2 * M.q) * bY)) * (g.d * N.d) - (M.q * (g.d * (r * N.d))) * ax - (M.p * (g.d * (r * N.d))) * ay + ((t2 * M.p + t1 * M.q) * (g.d * N.d)) * bx + ((t1 * M.p - t2 * M.q) * (g.d * N.d)) * bY := by clear h1 h2 h3 h4 ht k1 k2; grind
    rw [e, h4, k1, k2, h1, h2]
    clear h1 h2 h3 h4 ht k1 k2 e
    grind
theorem RelG.plc_ {g N M : Ps} (h : RelG g N M) (z : Sp) : (plc M z).x * (g.d * N.d) = (g.p * (plc N z).x - g.q * (plc N z).y + N.d * g.x) * M.d ∧ (plc M z).y * (g.d * N.d) = (g.q * (plc N z).x + g.p * (plc N z).y + N.d * g.y) * M.d := by
  obtain ⟨h1, h2, h3, h4⟩ := h
  simp only [plc]
  have e1 : (M.p * z.x - M.q * z.y + M.x) * (g.d * N.d) = (M.p * (g.d * N.d)) * z.x - (M.q * (g.d * N.d)) * z.y + M.x * (g.d * N.d) := by clear h1 h2 h3 h4; grind
  have e2 : (M.q * z.x + M.p * z.y + M.y) * (g.d * N.d) = (M.q * (g.d * N.d)) * z.x + (M.p * (g.d * N.d)) * z.y + M.y * (g.d * N.d) := by clear h1 h2 h3 h4 e1; grind
  rw [e1, e2, h1, h2, h3, h4]
  clear h1 h2 h3 h4 e1 e2
  constructor <;> grind
/-- The sides of edges are the same from the other end. -/
theorem side_alg {gp gq gd gx gy ax ay bx bY cx cy D E ax' ay' bx' bY' cx' cy' D' E' : Int} (hg : gp * gp + gq * gq = gd * gd)
    (a1 : ax' * (gd * D) = (gp * ax - gq * ay + D * gx) * D') (a2 : ay' * (gd * D) = (gq * ax + gp * ay + D * gy) * D')
    (b1 : bx' * (gd * D) = (gp * bx - gq * bY + D * gx) * D') (b2 : bY' * (gd * D) = (gq * bx + gp * bY + D * gy) * D')
    (c1 : cx' * (gd * E) = (gp * cx - gq * cy + E * gx) * E') (c2 : cy' * (gd * E) = (gq * cx + gp * cy + E * gy) * E') :
    (gd * gd * gd * D * D * E) * ((bx' - ax') * (cy' * D' - ay' * E') - (bY' - ay') * (cx' * D' - ax' * E')) = (gd * gd * gd * D' * D' * E') * ((bx - ax) * (cy * D - ay * E) - (bY - ay) * (cx * D - ax * E)) := by
  have u1 : (bx' - ax') * (gd * D) = (gp * (bx - ax) - gq * (bY - ay)) * D' := by rw [Int.sub_mul, a1, b1]; clear a1 a2 b1 b2 c1 c2 hg; grind
  have u2 : (bY' - ay') * (gd * D) = (gq * (bx - ax) + gp * (bY - ay)) * D' := by rw [Int.sub_mul, a2, b2]; clear a1 a2 b1 b2 c1 c2 hg u1; grind
  have v1 : (cx' * D' - ax' * E') * (gd * (gd * D * E)) = gd * (gp * (cx * D - ax * E) - gq * (cy * D - ay * E)) * (D' * E') := by
    have e : (cx' * D' - ax' * E') * (gd * (gd * D * E)) = (cx' * (gd * E)) * (gd * D * D') - (ax' * (gd * D)) * (gd * E * E') := by clear a1 a2 b1 b2 c1 c2 hg u1 u2; grind
    rw [e, c1, a1]
    clear a1 a2 b1 b2 c1 c2 hg u1 u2 e
    grind
  have v2 : (cy' * D' - ay' * E') * (gd * (gd * D * E)) = gd * (gq * (cx * D - ax * E) + gp * (cy * D - ay * E)) * (D' * E') := by
    have e : (cy' * D' - ay' * E') * (gd * (gd * D * E)) = (cy' * (gd * E)) * (gd * D * D') - (ay' * (gd * D)) * (gd * E * E') := by clear a1 a2 b1 b2 c1 c2 hg u1 u2 v1; grind
    rw [e, c2, a2]
    clear a1 a2 b1 b2 c1 c2 hg u1 u2 v1 e
    grind
  clear a1 a2 b1 b2 c1 c2
  generalize bx' - ax' = p1 at *
  generalize bY' - ay' = p2 at *
  generalize cx' * D' - ax' * E' = q1 at *
  generalize cy' * D' - ay' * E' = q2 at *
  generalize bx - ax = r1 at *
  generalize bY - ay = r2 at *
  generalize cx * D - ax * E = s1 at *
  generalize cy * D - ay * E = s2 at *
  have e : (gd * gd * gd * D * D * E) * (p1 * q2 - p2 * q1) = (p1 * (gd * D)) * (q2 * (gd * (gd * D * E))) - (p2 * (gd * D)) * (q1 * (gd * (gd * D * E))) := by clear u1 u2 v1 v2 hg; grind
  rw [e, u1, u2, v1, v2]
  have e2 : (gp * r1 - gq * r2) * D' * (gd * (gq * s1 + gp * s2) * (D' * E')) - (gq * r1 + gp * r2) * D' * (gd * (gp * s1 - gq * s2) * (D' * E')) = (gp * gp + gq * gq) * (gd * D' * D' * E' * (r1 * s2 - r2 * s1)) := by clear u1 u2 v1 v2 hg e; grind
  rw [e2, hg]
  clear u1 u2 v1 v2 hg e e2
  grind
theorem sign_eq {s t u v : Int} (hs : 0 < s) (ht : 0 < t) (h : s * u = t * v) : u ≤ 0 ↔ v ≤ 0 := by
  rw [← le_scl hs, h, le_scl ht]
theorem RelG.side {g N M N' M' : Ps} (hg : g.p * g.p + g.q * g.q = g.d * g.d) (g0 : 0 < g.d) (h : RelG g N M) (h' : RelG g N' M') (n0 : 0 < N.d) (m0 : 0 < M.d) (n1 : 0 < N'.d) (m1 : 0 < M'.d) (a b c : Sp) :
    sideS (plc M a) (plc M b) M.d (plc M' c) M'.d ≤ 0 ↔ sideS (plc N a) (plc N b) N.d (plc N' c) N'.d ≤ 0 := by
  refine sign_eq (s := g.d * g.d * g.d * N.d * N.d * N'.d) (t := g.d * g.d * g.d * M.d * M.d * M'.d) ?_ ?_ (side_alg hg (h.plc_ a).1 (h.plc_ a).2 (h.plc_ b).1 (h.plc_ b).2 (h'.plc_ c).1 (h'.plc_ c).2)
  · exact Int.mul_pos (Int.mul_pos (Int.mul_pos (Int.mul_pos (Int.mul_pos g0 g0) g0) n0) n0) n1
  · exact Int.mul_pos (Int.mul_pos (Int.mul_pos (Int.mul_pos (Int.mul_pos g0 g0) g0) m0) m0) m1
/-- The opposite angle. -/
def oppS (n : Nat) : Nat := ((List.range 36).find? fun m => decide (trn m = ((trn n).1, -(trn n).2.1, (trn n).2.2))).getD 0
theorem oppS_ok : ∀ n : Nat, n < 36 → oppS n < 36 ∧ trn (oppS n) = ((trn n).1, -(trn n).2.1, (trn n).2.2) := by decide +kernel
theorem trn_inj : ∀ n : Nat, n < 36 → ∀ m : Nat, m < 36 → trn n = trn m → n = m := by decide +kernel
def revH (h : Hg) : Hg := ⟨h.b, h.a, (oppS h.ang.toNat : Nat)⟩
theorem revH_ok {h : Hg} (hh : hingeB h) : hingeB (revH h) := ⟨hh.2.1, hh.1, by
  have := (oppS_ok h.ang.toNat (by have := hh.2.2; omega)).1
  simp only [revH]
  omega⟩
theorem rev_rel {hs : List Hg} (hh : ∀ h ∈ hs, hingeB h) : ∀ i, i ≤ hs.length → RelG (posF hs hs.length) (posF (hs.reverse.map revH) i) (posF hs (hs.length - i))
  | 0, _ => by
    refine ⟨?_, ?_, ?_, ?_⟩ <;> simp [posF, pose0, Int.mul_comm]
  | i + 1, hi => by
    have ih := rev_rel hh i (by omega)
    obtain ⟨j, hj⟩ : ∃ j, hs.length - i = j + 1 := ⟨hs.length - i - 1, by omega⟩
    rw [show hs.length - (i + 1) = j by omega]
    rw [hj] at ih
    have hjl : j < hs.length := by omega
    have e : hs.getD j hg0 = hs[j] := by simp [List.getD, List.getElem?_eq_getElem hjl]
    have e2 : (hs.reverse.map revH).getD i hg0 = revH hs[j] := by
      simp only [List.getD, List.getElem?_map]
      rw [List.getElem?_reverse (by omega), List.getElem?_eq_getElem (by omega)]
      simp only [Option.map_some, Option.getD_some]
      congr 2
      omega
    have hb := hh _ (List.getElem_mem hjl)
    have hn : hs[j].ang.toNat < 36 := by have := hb.2.2; omega
    have o1 := posF_ok hh j (by omega)
    have o2 := posF_ok (hs := hs.reverse.map revH) (fun h hm => by
      obtain ⟨h', hm', rfl⟩ := List.mem_map.1 hm
      exact revH_ok (hh _ (List.mem_reverse.1 hm'))) i (by simp; omega)
    have hto := turns_ok _ hn
    rw [posF, e, flw] at ih
    rw [posF, e2, flw]
    refine RelG.low ?_ ?_
    · have := (raw_ok o2 (revH_ok hb) (n := (revH hs[j]).ang.toNat) (by simp only [revH, Int.toNat_natCast]; exact (oppS_ok _ hn).1)).d0
      exact this
    · have hs1 := ih.of_low
      have e3 : trn (revH hs[j]).ang.toNat = ((trn hs[j].ang.toNat).1, -(trn hs[j].ang.toNat).2.1, (trn hs[j].ang.toNat).2.2) := by
        simp only [revH, Int.toNat_natCast]
        exact (oppS_ok _ hn).2
      rw [e3]
      exact RelG.step (by omega) hto.2.2 hs1
end Go.Proofs.Yteilglljigjefaa

/- Worlds that only grow, and regions whose operations read, call functions that only make new memory, and make new memory: one walk of the text's order serves every order. No program in sight. -/
namespace Go.Proofs.Yteilglljigjefaa
open Go.RowKit

/-- w' holds all that w holds. -/
def Ext (w w' : World) : Prop := Below w.heap.size w w'

section
variable {w w' a b c : World}
@[simp, go_sem] theorem Ext.refl (w : World) : Ext w w := Below.refl _ _
theorem Ext.trans (h : Ext a b) (k : Ext b c) : Ext a c := Below.trans h (Below.mono k h.size)
theorem Ext.le (h : Ext a b) : a.heap.size ≤ b.heap.size := Below.size h
@[simp, go_sem] theorem Ext.drew (h : Ext a w) : Ext a w.drew := Below.drew h
@[simp, go_sem] theorem Ext.drewN (h : Ext a w) (n : Nat) : Ext a (w.drewN n) := ⟨h.os, h.tape, h.output, h.size, h.block⟩
theorem Ext.drawn (h : Ext a w) (n : Nat) : Ext a { w with drawn := n } := ⟨h.os, h.tape, h.output, h.size, h.block⟩
@[simp, go_sem] theorem Ext.alloc (h : Ext a w) (o : Obj) : Ext a (w.alloc o) := Below.alloc h h.size o
theorem Ext.setCell (h : Ext a w) {p : Addr} (hp : a.heap.size ≤ p.block) (u : Value) : Ext a (w.setCell p u) := Below.setCell h hp u
theorem Ext.grown {row : Option Nat} (h : Ext a w) (hg : w.grownBy w' row) (hr : ∀ k, row = some k → a.heap.size ≤ k) : Ext a w' := Below.grown h hg h.size hr
theorem Ext.cell {p : Addr} {v : Value} (h : Ext a w) (hc : a.cell? p = some v) : w.cell? p = some v := by
  rw [Below.cell h (World.block_lt_of_cell? _ _ hc)]; exact hc
theorem Ext.cells {p : Addr} {v : Value} (hc : a.cell? p = some v) : ∀ w, Ext a w → w.cell? p = some v := fun _ h => h.cell hc
theorem Ext.frozen {p : Addr} (h : Ext a w) (hp : p.block < a.heap.size) : w.frozen? p = a.frozen? p := Below.frozen h hp
theorem Ext.heap {k : Nat} {o : Obj} (h : Ext a w) (hk : a.heap[k]? = some o) : w.heap[k]? = some o :=
  (h.block k (Array.getElem?_eq_some_iff.1 hk).1).trans hk
theorem Ext.owns {base : Nat} {e : TypeId} {size : Nat} {v : Value} {n : Nat} {xs : List Value} (h : Ext a w) (ho : a.ownsRow base e size v n xs) : w.ownsRow base e size v n xs := by
  refine ⟨ho.1, ?_⟩
  rcases ho.2 with h1 | ⟨g, cap, cur, hv, hg, hh, r⟩
  · exact .inl h1
  · exact .inr ⟨g, cap, cur, hv, hg, h.heap hh, r⟩
end


/-- A world that holds what w0 holds. -/
structure Later (w0 : World) where
  w : World
  ext : Ext w0 w
@[simp, go_sem] theorem Later.ext_ {w0 : World} (x : Later w0) : Ext w0 x.w := x.ext

instance (w0 : World) : Nonempty (Later w0) := ⟨⟨w0, Ext.refl w0⟩⟩

theorem wrap_nat (n : Nat) (h : n ≤ 9223372036854775807) : IntKind.i64.wrap (n : Int) = (n : Int) := by rw [IntKind.wrap_i64]; omega

/-! ### The theory -/

abbrev Fx := Nat → World → Prop
def Fx.put (F : Fx) (i : Nat) (R : World → Prop) : Fx := fun k w => F k w ∧ (k = i → R w)

def befB (ops : Array Oper) : Nat → Nat → Nat → Bool
  | 0, _, _ => false
  | n + 1, j, k => match ops[j]? with
    | some o => o.after.any fun e => Region.binds .any e && (e.on == k || befB ops n e.on k)
    | none => false

def facts (ops : Array Oper) (F : Fx) (j : Nat) (w : World) : Prop := ∀ k, befB ops 3 j k = true → F k w

def Sat (w0 : World) (F : Fx) : Prop := ∃ w, Ext w0 w ∧ ∀ k, F k w

abbrev Spec := Nat → Array Value → Value → World → Prop

def calmUpon (P : Program) (w : World) (Sj : Array Value → Value → World → Prop) : Result Next → Prop
  | .ok (.value _) w' => Ext w w'
  | .ok .skip w' => Ext w w'
  | .ok (.enter f args) w' => Calls P f args w' (fun e w'' => ∃ v, e = .returned v ∧ Ext w w'' ∧ Sj args v w'')
  | _ => False

def gives (Sj : Array Value → Value → World → Prop) (v : Value) (w' : World) : Result Next → Prop
  | .ok (.value u) w2 => v = u ∧ Ext w2 w'
  | .ok .skip w2 => v = undef ∧ Ext w2 w'
  | .ok (.enter _ args) _ => Sj args v w'
  | _ => False

section
variable (P : Program) (ops : Array Oper) (S : Spec) (w0 : World)

def Rel (x : Sem Next) (fj : World → Prop) (Sj : Array Value → Value → World → Prop) (v : Value) (w' : World) : Prop :=
  ∃ w1, Ext w0 w1 ∧ fj w1 ∧ gives Sj v w' (x.run P w1)

def YC (j : Nat) (o : Oper) (a : Act) (F : Fx) : Prop :=
  Region.wanted o (yielded ops a.tmps) = true → ∀ w, Ext w0 w → facts ops F j w → calmUpon P w (S j) ((execOp a.eval o).run P w)

def Cont (j : Nat) (o : Oper) (a : Act) (F : Fx) (K : Act → Fx → Prop) : Prop :=
  (Region.wanted o (yielded ops a.tmps) = true → ∀ v, Sat w0 (F.put j (Rel P w0 (execOp a.eval o) (facts ops F j) (S j) v)) →
    K (a.put o.dst v) (F.put j (Rel P w0 (execOp a.eval o) (facts ops F j) (S j) v))) ∧
  (Region.wanted o (yielded ops a.tmps) = false → K (a.put o.dst undef) F)

def cOp (j : Nat) (K : Act → Fx → Prop) (a : Act) (F : Fx) : Prop :=
  ∃ o, ops[j]? = some o ∧ YC P ops S w0 j o a F ∧ Cont P ops S w0 j o a F K

def wpCalm (Q : Act → Fx → Prop) : List Oper → Nat → Act → Fx → Prop
  | [], _, a, F => Q a F
  | o :: rest, k, a, F => YC P ops S w0 k o a F ∧ Cont P ops S w0 k o a F (wpCalm Q rest (k + 1))

def wpAnyC (n : Nat) (L : Array Bool → Act → Fx → Prop) : Nat → Array Bool → Act → Fx → Prop
  | 0, listed, a, F => L listed a F
  | f + 1, listed, a, F =>
    Region.ready .any ops listed ≠ [] ∧ ∀ i ∈ Region.ready .any ops listed, i < n ∧ cOp P ops S w0 i (wpAnyC n L f (listed.setIfInBounds i true)) a F
end

def StableF (F : Fx) : Prop := ∀ k w w', Ext w w' → F k w → F k w'
def StableS (S : Spec) : Prop := ∀ j args v w w', Ext w w' → S j args v w → S j args v w'

section
variable {P : Program} {ops : Array Oper} {S : Spec} {w0 : World}

theorem gives_stable {Sj : Array Value → Value → World → Prop} (hS : ∀ args v w w', Ext w w' → Sj args v w → Sj args v w') {v : Value} {w w' : World} {r : Result Next} (he : Ext w w') (h : gives Sj v w r) : gives Sj v w' r := by
  unfold gives at *
  split at h
  · exact ⟨h.1, h.2.trans he⟩
  · exact ⟨h.1, h.2.trans he⟩
  · exact hS _ _ _ _ he h
  · exact h.elim

theorem StableF.put {F : Fx} (h : StableF F) {i : Nat} {R : World → Prop} (hR : ∀ w w', Ext w w' → R w → R w') : StableF (F.put i R) :=
  fun k w w' he hk => ⟨h k w w' he hk.1, fun e => hR _ _ he (hk.2 e)⟩

theorem rel_stable (hS : StableS S) {x : Sem Next} {fj : World → Prop} {j : Nat} {v : Value} : ∀ w w', Ext w w' → Rel P w0 x fj (S j) v w → Rel P w0 x fj (S j) v w' :=
  fun _ _ he ⟨w1, h1, h2, h3⟩ => ⟨w1, h1, h2, gives_stable (hS j) he h3⟩

/-- From an actual world: the operation runs, and what comes out is related. -/
theorem wp_of_calm {o : Oper} {a : Act} {w : World} {j : Nat} {fj : World → Prop} {K' : Act → World → Prop} {Q' : Exit → Act → World → Prop}
    (he : Ext w0 w) (hf : fj w) (hu : calmUpon P w (S j) ((execOp a.eval o).run P w))
    (h : ∀ v w', Ext w w' → Rel P w0 (execOp a.eval o) fj (S j) v w' → K' (a.put o.dst v) w') : o.wp P a w K' Q' := by
  have h' : ∀ v w', Ext w w' → gives (S j) v w' ((execOp a.eval o).run P w) → K' (a.put o.dst v) w' := fun v w' h1 h2 => h v w' h1 ⟨w, he, hf, h2⟩
  clear h
  unfold Oper.wp
  generalize (execOp a.eval o).run P w = r at *
  cases r with
  | ok n w' =>
    cases n <;> simp only [calmUpon] at hu <;> simp only [Oper.upon]
    case value u => exact h' _ _ hu ⟨rfl, Ext.refl _⟩
    case skip => exact h' _ _ hu ⟨rfl, Ext.refl _⟩
    case enter f args => exact hu.mono fun e w'' ⟨v, he', hx, hs⟩ => by subst he'; exact h' _ _ hx hs
  | halt x w' => simp only [calmUpon] at hu

/-- There is a value that comes out. -/
theorem exists_of_calm {x : Sem Next} {w : World} {j : Nat} {fj : World → Prop} (he : Ext w0 w) (hf : fj w) (hu : calmUpon P w (S j) (x.run P w)) :
    ∃ v w', Ext w w' ∧ Rel P w0 x fj (S j) v w' := by
  have key : ∃ v w', Ext w w' ∧ gives (S j) v w' (x.run P w) := by
    generalize x.run P w = r at *
    cases r with
    | ok n w' =>
      cases n <;> simp only [calmUpon] at hu
      case value u => exact ⟨u, w', hu, rfl, Ext.refl _⟩
      case skip => exact ⟨undef, w', hu, rfl, Ext.refl _⟩
      case enter f args =>
        obtain ⟨e, w'', _, ⟨v, _, hx, hs⟩, _⟩ := hu []
        exact ⟨v, w'', hx, hs⟩
    | halt x w' => simp only [calmUpon] at hu
  obtain ⟨v, w', h1, h2⟩ := key
  exact ⟨v, w', h1, w, he, hf, h2⟩

theorem wpOp_of_cOp {j : Nat} {a : Act} {F : Fx} {w : World} {K : Act → Fx → Prop} {K' : Act → World → Prop} {Q' : Exit → Act → World → Prop} (hS : StableS S)
    (he : Ext w0 w) (hF : ∀ k, F k w) (hst : StableF F) (h : ∀ a F w', Ext w0 w' → (∀ k, F k w') → StableF F → K a F → K' a w') (hc : cOp P ops S w0 j K a F) : wpOp P ops Q' j K' a w := by
  obtain ⟨o, ho, hy, hn⟩ := hc
  unfold wpOp
  simp only [ho]
  cases hw : Region.wanted o (yielded ops a.tmps) with
  | true =>
    simp only [if_true]
    refine .inl (wp_of_calm (S := S) (j := j) (fj := facts ops F j) he (fun k _ => hF k) (hy hw w he (fun k _ => hF k)) fun v w' hx hr => ?_)
    have hx0 := he.trans hx
    have hF' : ∀ k, (F.put j (Rel P w0 (execOp a.eval o) (facts ops F j) (S j) v)) k w' := fun k => ⟨hst _ _ _ hx (hF k), fun _ => hr⟩
    exact h _ _ _ hx0 hF' (hst.put (rel_stable hS)) (hn.1 hw v ⟨w', hx0, hF'⟩)
  | false =>
    simp only [Bool.false_eq_true, if_false]
    exact h _ _ _ he hF hst (hn.2 hw)

theorem wpAny_of_headC {n g : Nat} {L : Array Bool → Act → Fx → Prop} {Q' : Exit → Act → World → Prop} (hS : StableS S)
    (hL : ∀ listed a F w, Ext w0 w → (∀ k, F k w) → L listed a F → wpAny P .any ops Q' g listed a w) :
    ∀ (f : Nat) (listed : Array Bool) (a : Act) (F : Fx) (w : World), Ext w0 w → (∀ k, F k w) → StableF F → wpAnyC P ops S w0 n L f listed a F → wpAny P .any ops Q' (f + g) listed a w
  | 0, listed, a, F, w, he, hF, _, h => by rw [Nat.zero_add]; exact hL _ _ _ _ he hF h
  | f + 1, listed, a, F, w, he, hF, hst, h => by
    rw [show f + 1 + g = (f + g) + 1 by omega]
    exact ⟨fun h0 => absurd h0 h.1, fun i hi => wpOp_of_cOp hS he hF hst (fun a' F' w' he' hF' hst' h' => wpAny_of_headC hS hL f _ a' F' w' he' hF' hst' h') (h.2 i hi).2⟩

theorem befB_listed {listed : Array Bool} (hcl : ∀ j oj, ops[j]? = some oj → listed.getD j false = true → ∀ e ∈ oj.after, Region.binds .any e = true → listed.getD e.on false = true) :
    ∀ (n j k : Nat), (∀ oj, ops[j]? = some oj → ∀ e ∈ oj.after, Region.binds .any e = true → listed.getD e.on false = true) → befB ops n j k = true → listed.getD k false = true
  | 0, _, _, _, h => by cases h
  | n + 1, j, k, hj, h => by
    unfold befB at h
    split at h
    · rename_i o ho
      obtain ⟨e, he, hb⟩ := Array.any_eq_true'.1 h
      simp only [Bool.and_eq_true, Bool.or_eq_true, beq_iff_eq] at hb
      have hl := hj o ho e he hb.1
      rcases hb.2 with h1 | h1
      · rw [← h1]; exact hl
      · exact befB_listed hcl n e.on k (fun oj hoj e' he' hb' => hcl e.on oj hoj hl e' he' hb') h1
    · cases h

theorem facts_put {F : Fx} {i j : Nat} {R : World → Prop} (h : befB ops 3 j i = false) : facts ops (F.put i R) j = facts ops F j := by
  funext w
  apply propext
  constructor
  · exact fun hh k hk => (hh k hk).1
  · exact fun hh k hk => ⟨hh k hk, fun e => by subst e; rw [h] at hk; cases hk⟩

theorem Fx.put_comm (F : Fx) (i j : Nat) (R T : World → Prop) : (F.put i R).put j T = (F.put j T).put i R := by
  funext k w
  apply propext
  constructor
  · rintro ⟨⟨h1, h2⟩, h3⟩; exact ⟨⟨h1, h3⟩, h2⟩
  · rintro ⟨⟨h1, h2⟩, h3⟩; exact ⟨⟨h1, h3⟩, h2⟩

structure InvC (ops : Array Oper) (n : Nat) (listed : Array Bool) : Prop where
  head : HeadInv .any ops n listed

theorem not_bef {n i j : Nat} {listed : Array Bool} (inv : HeadInv .any ops n listed) (hj : j ∈ Region.ready .any ops listed) (hi : listed.getD i true = false) : befB ops 3 j i = false := by
  cases h : befB ops 3 j i with
  | false => rfl
  | true =>
    obtain ⟨_, oj, hoj, hall⟩ := mem_ready.1 hj
    have := befB_listed inv.closed 3 j i (fun o ho e he hb => by
      have : o = oj := Option.some.inj (ho.symm.trans hoj)
      subst this
      exact hall e he hb) h
    rw [getD_both hi] at this
    cases this

theorem wpAnyC_first {n i : Nat} {oi : Oper} {L : Array Bool → Act → Fx → Prop} (hS : StableS S) (hi : ops[i]? = some oi) (hsel : ∀ (j : Nat) (o : Oper) cs b, ops[j]? = some o → o.op ≠ .select cs b)
    (htail : ∀ listed, HeadInv .any ops n listed → ∀ i, i < n → listed.getD i true = false → ∀ t, n ≤ t → t ∉ Region.ready .any ops listed) (hin : i < n)
    (hdone : ∀ listed a F, L listed a F → ∀ j ∈ Region.ready .any ops listed, n ≤ j) :
    ∀ (f : Nat) (listed : Array Bool) (a : Act) (F : Fx), HeadInv .any ops n listed →
      (∀ j oj, ops[j]? = some oj → j ≠ i → listed.getD j true = false → (∀ e ∈ oj.after, Region.binds .any e = true → e.on ≠ i) → oi.apart ops oj = true) →
      i ∈ Region.ready .any ops listed → Sat w0 F → StableF F → YC P ops S w0 i oi a F →
      Cont P ops S w0 i oi a F (wpAnyC P ops S w0 n L f (listed.setIfInBounds i true)) → wpAnyC P ops S w0 n L (f + 1) listed a F := by
  intro f
  induction f with
  | zero =>
    intro listed a F inv _ hr hsat hst hy H
    have hun := (mem_ready.1 hr).1
    refine ⟨fun h => (by rw [h] at hr; cases hr), fun j hj => ?_⟩
    have hjn : j < n := by
      rcases Nat.lt_or_ge j n with h | h
      · exact h
      · exact absurd hj (htail listed inv i hin hun j h)
    refine ⟨hjn, ?_⟩
    by_cases hji : j = i
    · subst hji; exact ⟨oi, hi, hy, H⟩
    · exfalso
      have hL : ∃ a' F', L (listed.setIfInBounds i true) a' F' := by
        cases hw : Region.wanted oi (yielded ops a.tmps) with
        | true =>
          obtain ⟨w, he, hF⟩ := hsat
          obtain ⟨v, w', hx, hrel⟩ := exists_of_calm (fj := facts ops F i) he (fun k _ => hF k) (hy hw w he (fun k _ => hF k))
          exact ⟨_, _, H.1 hw v ⟨w', he.trans hx, fun k => ⟨hst _ _ _ hx (hF k), fun _ => hrel⟩⟩⟩
        | false => exact ⟨_, _, H.2 hw⟩
      obtain ⟨a', F', hl⟩ := hL
      have := hdone _ _ _ hl j (ready_mono hj hji)
      omega
  | succ f ih =>
    intro listed a F inv hfree hr hsat hst hy H
    have hun := (mem_ready.1 hr).1
    refine ⟨fun h => (by rw [h] at hr; cases hr), fun j hj => ?_⟩
    have hjn : j < n := by
      rcases Nat.lt_or_ge j n with h | h
      · exact h
      · exact absurd hj (htail listed inv i hin hun j h)
    refine ⟨hjn, ?_⟩
    by_cases hji : j = i
    · subst hji; exact ⟨oi, hi, hy, H⟩
    · obtain ⟨hjun, oj, hoj, hall⟩ := mem_ready.1 hj
      have hnot : ∀ e ∈ oj.after, Region.binds .any e = true → e.on ≠ i := fun e he hb heq => by
        have h1 := hall e he hb
        rw [heq, getD_both hun] at h1
        cases h1
      obtain ⟨p1, p2, p3⟩ := Oper.apart_spec (hfree j oj hoj hji hjun hnot)
      have hsi := fun cs b => hsel i oi cs b hi
      have hsj := fun cs b => hsel j oj cs b hoj
      have bji : befB ops 3 j i = false := not_bef inv hj hun
      have bij : befB ops 3 i j = false := not_bef inv hr hjun
      -- what the head's continuation says of operation j behind operation i, at whatever value
      have after_i : ∀ a' F', wpAnyC P ops S w0 n L (f + 1) (listed.setIfInBounds i true) a' F' → YC P ops S w0 j oj a' F' ∧ Cont P ops S w0 j oj a' F' (wpAnyC P ops S w0 n L f ((listed.setIfInBounds i true).setIfInBounds j true)) := by
        intro a' F' h
        obtain ⟨_, o, ho, h1, h2⟩ := h.2 j (ready_mono hj hji)
        have : o = oj := Option.some.inj (ho.symm.trans hoj)
        subst this
        exact ⟨h1, h2⟩
      have wj : ∀ u, Region.wanted oj (yielded ops (a.put oi.dst u).tmps) = Region.wanted oj (yielded ops a.tmps) := fun u => wanted_put oj a oi.dst u p1
      have xj : ∀ u, execOp (a.put oi.dst u).eval oj = execOp a.eval oj := fun u => execOp_put oj hsj a oi.dst u p1
      have wi : ∀ u, Region.wanted oi (yielded ops (a.put oj.dst u).tmps) = Region.wanted oi (yielded ops a.tmps) := fun u => wanted_put oi a oj.dst u p3
      have xi : ∀ u, execOp (a.put oj.dst u).eval oi = execOp a.eval oi := fun u => execOp_put oi hsi a oj.dst u p3
      -- operation j yields now, too
      have yj : YC P ops S w0 j oj a F := by
        intro hwj
        cases hw : Region.wanted oi (yielded ops a.tmps) with
        | true =>
          obtain ⟨w, he, hF⟩ := hsat
          obtain ⟨v, w', hx, hrel⟩ := exists_of_calm (fj := facts ops F i) he (fun k _ => hF k) (hy hw w he (fun k _ => hF k))
          have h1 := (after_i _ _ (H.1 hw v ⟨w', he.trans hx, fun k => ⟨hst _ _ _ hx (hF k), fun _ => hrel⟩⟩)).1
          unfold YC at h1
          rw [wj, xj, facts_put bji] at h1
          exact h1 hwj
        | false =>
          have h1 := (after_i _ _ (H.2 hw)).1
          unfold YC at h1
          rw [wj, xj] at h1
          exact h1 hwj
      have hfree' : ∀ k ok, ops[k]? = some ok → k ≠ i → (listed.setIfInBounds j true).getD k true = false →
          (∀ e ∈ ok.after, Region.binds .any e = true → e.on ≠ i) → oi.apart ops ok = true := fun k ok hk hki hun' hno => by
        refine hfree k ok hk hki ?_ hno
        by_cases hjk : j = k
        · subst hjk; exact hjun
        · rw [getD_set_ne true hjk] at hun'; exact hun'
      refine ⟨oj, hoj, yj, fun hwj u hsu => ?_, fun hwj => ?_⟩
      · -- operation j is taken, with u
        generalize hFj : F.put j (Rel P w0 (execOp a.eval oj) (facts ops F j) (S j) u) = Fj at *
        have hfi : facts ops Fj i = facts ops F i := by rw [← hFj]; exact facts_put bij
        have hstj : StableF Fj := by rw [← hFj]; exact hst.put (rel_stable hS)
        refine ih (listed.setIfInBounds j true) (a.put oj.dst u) Fj (inv.set hj hjn) hfree' (ready_mono hr (Ne.symm hji)) hsu hstj ?_ ⟨fun hwi v hsv => ?_, fun hwi => ?_⟩
        · unfold YC
          rw [wi, xi, hfi]
          exact hy
        · rw [wi] at hwi
          rw [xi, hfi] at hsv ⊢
          obtain ⟨w, he, hw⟩ := hsv
          have hsi : Sat w0 (F.put i (Rel P w0 (execOp a.eval oi) (facts ops F i) (S i) v)) := by
            refine ⟨w, he, fun k => ⟨?_, fun e => (hw k).2 e⟩⟩
            have := (hw k).1
            rw [← hFj] at this
            exact this.1
          have h2 := (after_i _ _ (H.1 hwi v hsi)).2.1
          rw [wj, xj, facts_put bji] at h2
          have h3 := h2 hwj u ⟨w, he, fun k => ⟨⟨by have := (hw k).1; rw [← hFj] at this; exact this.1, fun e => (hw k).2 e⟩, fun e => by have := (hw k).1; rw [← hFj] at this; exact this.2 e⟩⟩
          rw [Array.setIfInBounds_comm _ _ hji, ← hFj, Fx.put_comm, Act.put_comm a u v (fun d hd hd' => p2 d hd' hd)]
          exact h3
        · rw [wi] at hwi
          have h2 := (after_i _ _ (H.2 hwi)).2.1
          rw [wj, xj] at h2
          have h3 := h2 hwj u (by rw [hFj]; exact hsu)
          rw [Array.setIfInBounds_comm _ _ hji, ← hFj, Act.put_comm a u undef (fun d hd hd' => p2 d hd' hd)]
          exact h3
      · refine ih (listed.setIfInBounds j true) (a.put oj.dst undef) F (inv.set hj hjn) hfree' (ready_mono hr (Ne.symm hji)) hsat hst ?_ ⟨fun hwi v hsv => ?_, fun hwi => ?_⟩
        · unfold YC
          rw [wi, xi]
          exact hy
        · rw [wi] at hwi
          rw [xi] at hsv ⊢
          have h2 := (after_i _ _ (H.1 hwi v hsv)).2.2
          rw [wj] at h2
          have h3 := h2 hwj
          rw [Array.setIfInBounds_comm _ _ hji, Act.put_comm a undef v (fun d hd hd' => p2 d hd' hd)]
          exact h3
        · rw [wi] at hwi
          have h2 := (after_i _ _ (H.2 hwi)).2.2
          rw [wj] at h2
          have h3 := h2 hwj
          rw [Array.setIfInBounds_comm _ _ hji, Act.put_comm a undef undef (fun d hd hd' => p2 d hd' hd)]
          exact h3
end

/-! ### The order of the text, and a tail that is forced -/

section
variable {P : Program} {ops : Array Oper} {S : Spec} {w0 : World}

/-- 'lexTailB' (Derived/StillTail.lean) with a tail, or with none. -/
def calmB (ops : Array Oper) (n : Nat) : Bool :=
  Region.noSelect ops && (decide (n = ops.size) || (decide (n < ops.size) && Region.sinkB .any ops n && Region.chainB .any ops n)) && Region.lexHead .any ops (ops.size - n) n 0 (Array.replicate ops.size false)

theorem calm_tail {n : Nat} (h : n = ops.size ∨ (n < ops.size ∧ Region.sinkB .any ops n = true ∧ Region.chainB .any ops n = true)) :
    ∀ listed, HeadInv .any ops n listed → ∀ i, i < n → listed.getD i true = false → ∀ t, n ≤ t → t ∉ Region.ready .any ops listed := by
  intro listed inv i hi hun t ht
  rcases h with h | ⟨h1, h2, h3⟩
  · intro hr
    obtain ⟨_, o, ho, _⟩ := mem_ready.1 hr
    have := (Array.getElem?_eq_some_iff.1 ho).1
    omega
  · exact tail_waits h2 h3 h1 inv _ i rfl hi hun t ht

theorem Cont.sat {K K' : Act → Fx → Prop} {j : Nat} {o : Oper} {a : Act} {F : Fx} (hS : StableS S) (hst : StableF F) (h : ∀ a F, Sat w0 F → StableF F → K a F → K' a F) (hs : Sat w0 F) (hc : Cont P ops S w0 j o a F K) : Cont P ops S w0 j o a F K' :=
  ⟨fun hw v hv => h _ _ hv (hst.put (rel_stable hS)) (hc.1 hw v hv), fun hw => h _ _ hs hst (hc.2 hw)⟩

theorem wpAnyC_lex {n g : Nat} {Lq : Act → Fx → Prop} (hS : StableS S) (hsel : Region.noSelect ops = true)
    (htail : ∀ listed, HeadInv .any ops n listed → ∀ i, i < n → listed.getD i true = false → ∀ t, n ≤ t → t ∉ Region.ready .any ops listed) :
    ∀ (l : List Oper) (k : Nat) (listed : Array Bool) (a : Act) (F : Fx), (∀ j, j < l.length → l[j]? = ops[k + j]?) → k + l.length = n → HeadInv .any ops n listed →
    Region.lexHead .any ops g l.length k listed = true → Sat w0 F → StableF F → wpCalm P ops S w0 Lq l k a F →
    wpAnyC P ops S w0 n (fun listed' a' F' => Region.seqB .any ops g n listed' = true ∧ Lq a' F') l.length listed a F
  | [], k, listed, a, F, _, hk, _, hB, _, _, h => by
    have : k = n := by simpa using hk
    subst this
    exact ⟨by simpa [Region.lexHead] using hB, h⟩
  | o :: l, k, listed, a, F, hl, hk, inv, hB, hs, hst, h => by
    have h0 : ops[k]? = some o := by simpa using (hl 0 (by simp)).symm
    simp only [List.length_cons, Region.lexHead, Bool.and_eq_true] at hB
    obtain ⟨⟨hr, hf⟩, hB'⟩ := hB
    have hkn : k < n := by simp only [List.length_cons] at hk; omega
    have hr' : k ∈ Region.ready .any ops listed := by simpa using hr
    refine wpAnyC_first hS h0 (Region.noSelect_spec hsel) htail hkn (fun listed' a' F' hL => seqB_ready hL.1) l.length listed a F inv (Region.free_spec h0 hf) hr' hs hst h.1 ?_
    exact Cont.sat hS hst (fun a' F' hs' hst' hK => wpAnyC_lex hS hsel htail l (k + 1) _ a' F' (fun j hj => by have := hl (j + 1) (by simp; omega); simpa [Nat.add_assoc, Nat.add_comm 1 j] using this)
      (by simp only [List.length_cons] at hk; omega) (inv.set hr' hkn) hB' hs' hst' hK) hs h.2

theorem wp_region_calm {id : Nat} {Q : Exit → Act → World → Prop} {a : Act} {w : World} {l : List Oper} (n : Nat) (S : Spec) (hS : StableS S) (hm : P.follows .mixedOrders = true) (hB : calmB l.toArray n = true)
    (h : wpCalm P l.toArray S w (fun a' F => ∀ w', Ext w w' → (∀ k, F k w') → wpList P l.toArray Q (l.drop n) a' w') (l.take n) 0 a (fun _ _ => True)) : (Code.region id l.toArray true).wp P Q a w := by
  simp only [calmB, Bool.and_eq_true, Bool.or_eq_true, decide_eq_true_eq] at hB
  obtain ⟨⟨hsel, hn⟩, hlex⟩ := hB
  have hn' : n ≤ l.length := by
    rcases hn with h1 | h1
    · rw [h1]; simp
    · have := h1.1.1; simp at this; omega
  have htl : (l.take n).length = n := by simp; omega
  have hdl : (l.drop n).length = l.toArray.size - n := by simp
  have htail := calm_tail (ops := l.toArray) (n := n) (by rcases hn with h1 | h1; exact .inl h1; exact .inr ⟨h1.1.1, h1.1.2, h1.2⟩)
  have inv0 : HeadInv .any l.toArray n (Array.replicate l.toArray.size false) :=
    ⟨by simp, fun j oj _ hl => (by rw [getD_replicate_false] at hl; cases hl), fun t _ ht => getD_in (by simpa using ht) (getD_replicate_false _ _)⟩
  have H := wpAnyC_lex (g := l.toArray.size - n) hS hsel htail (l.take n) 0 _ a _ (fun j hj => by
    have hj' : j < n := by rw [htl] at hj; exact hj
    simp [hj']) (by simpa using htl) inv0 (by rw [htl]; exact hlex) ⟨w, Ext.refl _, fun _ => trivial⟩ (fun _ _ _ _ h => h) h
  refine wp_region_any hm ?_
  have := wpAny_of_headC (P := P) (ops := l.toArray) (S := S) (w0 := w) (n := n) (Q' := Q) (g := l.toArray.size - n) hS (fun listed a' F w1 he hF hL => by
    have := wpAny_of_seq (md := .any) (Q' := Q) (l.drop n) n listed a' w1 (fun j => by simp [List.getElem?_drop]) (by rw [hdl]; exact hL.1) (hL.2 w1 he hF)
    rwa [hdl] at this) (l.take n).length (Array.replicate l.toArray.size false) a (fun _ _ => True) { w with drawn := w.drawn + 1 } ((Ext.refl w).drawn _) (fun _ => trivial) (fun _ _ _ _ h => h) H
  rw [htl, show n + (l.toArray.size - n) = l.toArray.size by omega] at this
  exact this

/-! ### Steps -/

/-- More facts do no harm. -/
def MonoQ (Q : Act → Fx → Prop) : Prop := ∀ a F F', (∀ k w, F' k w → F k w) → Q a F → Q a F'

theorem wpCalm_mono {Q : Act → Fx → Prop} (hQ : MonoQ Q) : ∀ (l : List Oper) (k : Nat) (a : Act) (F F' : Fx), (∀ k w, F' k w → F k w) → wpCalm P ops S w0 Q l k a F → wpCalm P ops S w0 Q l k a F'
  | [], _, a, F, F', h, hh => hQ a F F' h hh
  | o :: l, k, a, F, F', h, ⟨hy, hn⟩ => by
    have hf : ∀ w, facts ops F' k w → facts ops F k w := fun w hf i hi => h _ _ (hf i hi)
    have hr : ∀ v w, Rel P w0 (execOp a.eval o) (facts ops F' k) (S k) v w → Rel P w0 (execOp a.eval o) (facts ops F k) (S k) v w := fun v w ⟨w1, h1, h2, h3⟩ => ⟨w1, h1, hf _ h2, h3⟩
    have hp : ∀ v, ∀ i w, (F'.put k (Rel P w0 (execOp a.eval o) (facts ops F' k) (S k) v)) i w → (F.put k (Rel P w0 (execOp a.eval o) (facts ops F k) (S k) v)) i w := fun v i w hh => ⟨h _ _ hh.1, fun e => hr _ _ (hh.2 e)⟩
    exact ⟨fun hw w he hf' => hy hw w he (hf w hf'), fun hw v ⟨w, he, hs⟩ => wpCalm_mono hQ l (k + 1) _ _ _ (hp v) (hn.1 hw v ⟨w, he, fun i => hp v i w (hs i)⟩), fun hw => wpCalm_mono hQ l (k + 1) _ _ _ h (hn.2 hw)⟩

theorem calm_mono_final {Q : Act → World → Prop} : MonoQ (fun a F => ∀ w', Ext w0 w' → (∀ k, F k w') → Q a w') := fun _ _ _ h hq w' he hF => hq w' he (fun k => h _ _ (hF k))

/-- No call of a Go function. -/
def quietKind (o : Oper) : Bool := match o.op with
  | .call { callee := .builtin .len, .. } | .call { callee := .builtin .min, .. } | .call { callee := .builtin .max, .. } | .call { callee := .builtin .cap, .. } => true
  | .move _ | .assign _ | .pick .. | .load .. | .binOp .. | .unOp .. | .convert .. | .fieldAddr .. | .field .. | .indexAddr .. | .index .. | .slice .. | .extract .. | .lookup .. => true
  | _ => false

def noEnter : Result Next → Prop
  | .ok (.enter _ _) _ => False
  | _ => True

theorem noEnter_v (s : Sem Value) (w : World) : noEnter ((do pure (Next.value (← s)) : Sem Next).run P w) := by
  simp only [Sem.run_bind, Sem.run_pure]
  cases s.run P w <;> simp [Result.andThen, noEnter]

theorem noEnter_of_quietKind {o : Oper} (h : quietKind o = true) (ρ : Operand → Value) (w : World) : noEnter ((execOp ρ o).run P w) := by
  unfold quietKind at h
  unfold execOp
  split at h <;> rename_i heq <;> simp only [heq]
  all_goals first
    | exact noEnter_v _ w
    | (simp only [resolve, invoke, builtin, Sem.run_bind, Sem.run_pure]; exact noEnter_v _ w)
    | (simp only [Sem.run_pure]; trivial)
    | (simp at h; done)
    | skip
  all_goals (simp only [Sem.run_bind, Sem.run_pure]; generalize Sem.run P _ w = r; cases r <;> simp [Result.andThen, noEnter])

/-- Operations that leave the world alone: by the quiet walk (Derived/Deep/Quiet.lean), in the class of all worlds that hold what w0 holds. -/
theorem calm_chunk {Q : Act → Fx → Prop} (hQ : MonoQ Q) : ∀ (l l2 : List Oper) (k : Nat) (a : Act) (F : Fx), (l.all fun o => quietKind o) = true →
    wpQuiet P ops (fun w => ∃ x : Later w0, w = x.w) (fun a' => wpCalm P ops S w0 Q l2 (k + l.length) a' F) l a → wpCalm P ops S w0 Q (l ++ l2) k a F := by
  intro l
  induction l with
  | nil => intro l2 k a F _ h; exact h
  | cons o l ih =>
    intro l2 k a F hk h
    simp only [List.all_cons, Bool.and_eq_true] at hk
    unfold wpQuiet at h
    have hlen : k + (o :: l).length = (k + 1) + l.length := by simp only [List.length_cons]; omega
    rw [hlen] at h
    cases hw : Region.wanted o (yielded ops a.tmps) with
    | true =>
      rw [hw, if_pos rfl] at h
      obtain ⟨v, h1, h2⟩ := h
      -- what comes out, in any world: v, and nothing else has happened, or (for a row of the model's own) a call
      refine ⟨fun _ w he _ => ?_, fun _ u hu => ?_, fun hf => by rw [hw] at hf; cases hf⟩
      · have h3 := h1 w ⟨⟨w, he⟩, rfl⟩
        have hne := noEnter_of_quietKind (P := P) hk.1 a.eval w
        unfold Oper.quietAt at h3
        generalize (execOp a.eval o).run P w = r at *
        cases r with
        | ok n w' =>
          cases n <;> simp only [Oper.quietUpon] at h3 <;> simp only [calmUpon]
          case value x => obtain ⟨e, _⟩ := h3; rw [e]; exact Ext.refl _
          case skip => obtain ⟨e, _⟩ := h3; rw [e]; exact Ext.refl _
          case enter f args => exact hne.elim
        | halt x w' => simp only [Oper.quietUpon] at h3
      · obtain ⟨w, he, hs⟩ := hu
        obtain ⟨w1, he1, _, hg⟩ := (hs k).2 rfl
        have h3 := h1 w1 ⟨⟨w1, he1⟩, rfl⟩
        have hne := noEnter_of_quietKind (P := P) hk.1 a.eval w1
        have huv : u = v := by
          unfold Oper.quietAt at h3
          generalize (execOp a.eval o).run P w1 = r at *
          cases r with
          | ok n w' =>
            cases n <;> simp only [Oper.quietUpon] at h3 <;> simp only [gives] at hg
            case value x => rw [hg.1, h3.2]
            case skip => rw [hg.1, h3.2]
            case enter f args => exact hne.elim
          | halt x w' => simp only [Oper.quietUpon] at h3
        subst huv
        exact wpCalm_mono hQ _ _ _ F _ (fun _ _ hh => hh.1) (ih l2 (k + 1) _ F hk.2 h2)
    | false =>
      rw [hw] at h
      exact ⟨fun hf => (by rw [hw] at hf; cases hf), fun hf => (by rw [hw] at hf; cases hf), fun _ => ih l2 (k + 1) _ F hk.2 h⟩

theorem calm_nil {Q : Act → Fx → Prop} {k : Nat} {a : Act} {F : Fx} (h : Q a F) : wpCalm P ops S w0 Q [] k a F := h

/-- A call of a Go function: its result is any value that S lets by. -/
theorem calm_call {Q : Act → Fx → Prop} {o : Oper} {l : List Oper} {k : Nat} {a : Act} {F : Fx} (hQ : MonoQ Q) (f : FuncId) (args : Array Value) (hw : Region.wanted o (yielded ops a.tmps) = true)
    (hrun : ∀ w, (execOp a.eval o).run P w = .ok (.enter f args) w)
    (hcall : ∀ w, Ext w0 w → facts ops F k w → Calls P f args w (fun e w'' => ∃ v, e = .returned v ∧ Ext w w'' ∧ S k args v w''))
    (hn : ∀ v w', Ext w0 w' → S k args v w' → wpCalm P ops S w0 Q l (k + 1) (a.put o.dst v) (F.put k (S k args v))) : wpCalm P ops S w0 Q (o :: l) k a F := by
  refine ⟨fun _ w he hf => ?_, fun _ v hv => ?_, fun hf => by rw [hw] at hf; cases hf⟩
  · rw [hrun]; exact hcall w he hf
  · have hS : ∀ w', Rel P w0 (execOp a.eval o) (facts ops F k) (S k) v w' → S k args v w' := fun w' ⟨w1, _, _, h⟩ => by rw [hrun] at h; exact h
    obtain ⟨w', he, hs⟩ := hv
    exact wpCalm_mono hQ _ _ _ _ _ (fun i w h => ⟨h.1, fun e => hS _ (h.2 e)⟩) (hn v w' he (hS _ ((hs k).2 rfl)))

/-- New memory: its block's number is not told. -/
theorem calm_alloc {Q : Act → Fx → Prop} {o : Oper} {l : List Oper} {k : Nat} {a : Act} {F : Fx} (hQ : MonoQ Q) (mk : Nat → Value) (ob : Obj) (hinj : ∀ b c, mk c = mk b → c = b) (hw : Region.wanted o (yielded ops a.tmps) = true)
    (hrun : ∀ w, (execOp a.eval o).run P w = .ok (.value (mk w.heap.size)) (w.alloc ob))
    (hn : ∀ b, w0.heap.size ≤ b → wpCalm P ops S w0 Q l (k + 1) (a.put o.dst (mk b)) (F.put k (fun w => w.heap[b]? = some ob))) : wpCalm P ops S w0 Q (o :: l) k a F := by
  refine ⟨fun _ w he hf => ?_, fun _ v hv => ?_, fun hf => by rw [hw] at hf; cases hf⟩
  · rw [hrun]; exact (Ext.refl w).alloc ob
  · have hS : ∀ w', Rel P w0 (execOp a.eval o) (facts ops F k) (S k) v w' → ∃ b, w0.heap.size ≤ b ∧ v = mk b ∧ w'.heap[b]? = some ob := fun w' ⟨w1, he, _, h⟩ => by
      rw [hrun] at h
      exact ⟨w1.heap.size, he.le, h.1, h.2.heap (heap_alloc_new w1 ob)⟩
    obtain ⟨w', he, hs⟩ := hv
    obtain ⟨b, hb, rfl, hh⟩ := hS _ ((hs k).2 rfl)
    exact wpCalm_mono hQ _ _ _ _ _ (fun i w h => ⟨h.1, fun e => by obtain ⟨c, _, hc, hh'⟩ := hS _ (h.2 e); rw [← hinj b c hc.symm]; exact hh'⟩) (hn b hb)

/-- The chunk, with its number of operations. -/
theorem calm_quiet {Q : Act → Fx → Prop} (hQ : MonoQ Q) (m : Nat) {l : List Oper} {k : Nat} {a : Act} {F : Fx} (hk : ((l.take m).all fun o => quietKind o) = true)
    (h : wpQuiet P ops (fun w => ∃ x : Later w0, w = x.w) (fun a' => wpCalm P ops S w0 Q (l.drop m) (k + (l.take m).length) a' F) (l.take m) a) : wpCalm P ops S w0 Q l k a F := by
  rw [← List.take_append_drop m l]
  exact calm_chunk hQ _ _ _ _ _ hk h
end
end Go.Proofs.Yteilglljigjefaa

/- Slices that read as lists of numbers. No program in sight. -/
namespace Go.Proofs.Yteilglljigjefaa
open Go.RowKit

theorem block_of_add (a : Addr) (n : Nat) : (a.add n).block = a.block := by unfold Addr.add; split <;> rfl
theorem add_of_add (a : Addr) (i j : Nat) : (a.add i).add j = a.add (i + j) := by
  unfold Addr.add
  by_cases hi : i = 0 <;> by_cases hj : j = 0 <;> simp [hi, hj, Nat.add_assoc]

/-- The slice with this address, of as many cells as there are values, holds them. -/
def Row (w : World) (A : Option Addr) (xs : List Value) : Prop := ∀ k, k < xs.length → ∃ ad, A = some ad ∧ w.cell? (ad.add k) = xs[k]?

abbrev vint (x : Int) : Value := .int .i64 x
def Ints (w : World) (A : Option Addr) (xs : List Int) : Prop := Row w A (xs.map vint)

/-- The number at a place, behind a name that the walk does not open. -/
def getI (xs : List Int) (k : Nat) : Int := xs[k]?.getD 0
theorem getI_eq {xs : List Int} {k : Nat} (h : k < xs.length) : getI xs k = xs[k] := by simp [getI, h]

theorem Row.ext {w w' : World} {A : Option Addr} {xs : List Value} (h : Row w A xs) (he : Ext w w') : Row w' A xs := fun k hk => by
  obtain ⟨ad, ha, hc⟩ := h k hk
  refine ⟨ad, ha, ?_⟩
  rw [List.getElem?_eq_getElem hk] at hc ⊢
  exact he.cell hc
theorem Ints.ext {w w' : World} {A : Option Addr} {xs : List Int} (h : Ints w A xs) (he : Ext w w') : Ints w' A xs := Row.ext h he
theorem Row.nil (w : World) (A : Option Addr) : Row w A [] := fun k hk => absurd hk (by simp)
theorem Ints.nil (w : World) (A : Option Addr) : Ints w A [] := Row.nil w A

theorem Ints.at_ {w : World} {A : Option Addr} {xs : List Int} (h : Ints w A xs) {k : Nat} (hk : k < xs.length) : ∃ ad, A = some ad ∧ w.cell? (ad.add k) = some (.int .i64 (getI xs k)) := by
  obtain ⟨ad, ha, hc⟩ := h k (by simpa using hk)
  refine ⟨ad, ha, ?_⟩
  rw [hc]
  simp [getI, hk]
/-- The cells of a slice that is not empty, for every world that holds what w holds. -/
theorem Ints.some_ {w : World} {A : Option Addr} {xs : List Int} (h : Ints w A xs) (hn : 0 < xs.length) : ∃ ad, A = some ad ∧ ∀ k, k < xs.length → ∀ w', Ext w w' → w'.cell? (ad.add k) = some (.int .i64 (getI xs k)) := by
  obtain ⟨ad, ha, _⟩ := h.at_ hn
  refine ⟨ad, ha, fun k hk w' he => ?_⟩
  obtain ⟨ad', ha', hc⟩ := h.at_ hk
  rw [ha] at ha'
  injection ha' with ha'
  subst ha'
  exact he.cell hc

theorem add_zero_ (ad : Addr) : ad.add 0 = ad := by unfold Addr.add; simp
/-- .. and the first one, as the walk writes it. -/
theorem Ints.some0 {w : World} {A : Option Addr} {xs : List Int} (h : Ints w A xs) (hn : 0 < xs.length) :
    ∃ ad, A = some ad ∧ (∀ k, k < xs.length → ∀ w', Ext w w' → w'.cell? (ad.add k) = some (.int .i64 (getI xs k))) ∧ ∀ w', Ext w w' → w'.cell? ad = some (.int .i64 (getI xs 0)) := by
  obtain ⟨ad, ha, hc⟩ := h.some_ hn
  exact ⟨ad, ha, hc, fun w' he => by have := hc 0 hn w' he; rwa [add_zero_] at this⟩

theorem Row.of_own {w : World} {base : Nat} {e : TypeId} {size : Nat} {A : Option Addr} {n c : Nat} {xs : List Value} (h : w.ownsRow base e size (.slice A n c) n xs) : Row w A xs := by
  intro k hk
  rcases h.2 with ⟨hv, hn⟩ | ⟨g, cap, cur, hv, _, hh, _, _, _, htake⟩
  · have := h.1; rw [hn] at this; omega
  · injection hv with h1 h2 h3
    subst h1
    refine ⟨_, rfl, ?_⟩
    exact (World.ownsRow.cells h (g := g) rfl k _ (List.getElem?_eq_getElem hk)).trans (List.getElem?_eq_getElem hk).symm

theorem add_lit (a : Addr) (j : Nat) (h : j ≠ 0) : a.add j = ⟨a.block, a.off + j, none⟩ := by unfold Addr.add; rw [if_neg h]

/-! ### Slices of structs: rows of cells -/

theorem flatten_get (size : Nat) : ∀ (rows : List (List Value)), (∀ r ∈ rows, r.length = size) → ∀ k j, j < size → (hk : k < rows.length) → rows.flatten[k * size + j]? = rows[k][j]?
  | [], _, _, _, _, hk => by simp at hk
  | r :: rows, h, 0, j, hj, _ => by
    have hr := h r (by simp)
    simp [List.getElem?_append, hr, hj]
  | r :: rows, h, k + 1, j, hj, hk => by
    have hr := h r (by simp)
    have ih := flatten_get size rows (fun x hx => h x (by simp [hx])) k j hj (by simpa using hk)
    rw [List.flatten_cons, List.getElem?_append_right (by rw [hr, Nat.add_mul]; omega), hr, show (k + 1) * size + j - size = k * size + j by rw [Nat.add_mul]; omega]
    simpa using ih
theorem flatten_len (size : Nat) : ∀ (rows : List (List Value)), (∀ r ∈ rows, r.length = size) → rows.flatten.length = rows.length * size
  | [], _ => by simp
  | r :: rows, h => by
    rw [List.flatten_cons, List.length_append, h r (by simp), flatten_len size rows (fun x hx => h x (by simp [hx])), List.length_cons, Nat.add_mul]
    omega

/-- Element k's cells, for every world that holds what w holds. -/
theorem Row.struct {w : World} {A : Option Addr} {rows : List (List Value)} {size : Nat} (h : Row w A rows.flatten) (hs : ∀ r ∈ rows, r.length = size) {k : Nat} (hk : k < rows.length) (hpos : 0 < size) :
    ∃ ad, A = some ad ∧ ∀ j (hj : j < size), ∀ w', Ext w w' → w'.cell? ((ad.add (k * size)).add j) = some (rows[k][j]'(by rw [hs _ (List.getElem_mem hk)]; exact hj)) := by
  have hlen := flatten_len size rows hs
  have hlt : ∀ j, j < size → k * size + j < rows.flatten.length := fun j hj => by
    rw [hlen]
    have : (k + 1) * size ≤ rows.length * size := Nat.mul_le_mul_right _ hk
    rw [Nat.add_mul] at this
    omega
  obtain ⟨ad, ha, _⟩ := h _ (hlt 0 hpos)
  refine ⟨ad, ha, fun j hj w' he => ?_⟩
  obtain ⟨ad', ha', hc⟩ := h _ (hlt j hj)
  rw [ha] at ha'
  injection ha' with ha'
  subst ha'
  rw [add_of_add]
  refine he.cell (hc.trans ?_)
  rw [flatten_get size rows hs k j hj hk, List.getElem?_eq_getElem]
end Go.Proofs.Yteilglljigjefaa

/- Slices that the call itself makes: make, append, stores, as steps of the walk. -/
namespace Go.Proofs.Yteilglljigjefaa
open Go.RowKit

/-- What the table says of an element type. -/
structure ElemInfo (e : TypeId) (z : Value) (size bytes : Nat) : Prop where
  info : ∃ i, Try.prog.info? e = some i ∧ i.zero = some z ∧ i.size = size ∧ i.bytes = bytes
  zs : z.cells.size = size
  pos : 0 < size

theorem int_elem : ElemInfo 3 (.int .i64 0) 1 8 := ⟨info_parts (by kernel_rfl), rfl, by decide⟩

/-- The slice v is the call's own since w1, and holds xs. -/
def Own (w1 w : World) (e : TypeId) (size : Nat) (v : Value) (n : Nat) (xs : List Value) : Prop := Ext w1 w ∧ w.ownsRow w1.heap.size e size v n xs
abbrev OwnI (w1 w : World) (v : Value) (xs : List Int) : Prop := Own w1 w 3 1 v xs.length (xs.map vint)

section
variable {w1 w w' : World} {e : TypeId} {size : Nat} {v : Value} {n : Nat} {xs : List Value}
theorem Own.ext (h : Own w1 w e size v n xs) : Ext w1 w := h.1
theorem Own.later (h : Own w1 w e size v n xs) (he : Ext w w') : Own w1 w' e size v n xs := ⟨h.1.trans he, he.owns h.2⟩
theorem Own.alloc (h : Own w1 w e size v n xs) (o : Obj) : Own w1 (w.alloc o) e size v n xs := h.later (by simp)
theorem Own.nil (w : World) (e : TypeId) (size : Nat) : Own w w e size (.slice none 0 0) 0 [] := ⟨Ext.refl w, World.ownsRow_nil _ _ _ _⟩
theorem Own.nil' (he : Ext w1 w) (e : TypeId) (size : Nat) : Own w1 w e size (.slice none 0 0) 0 [] := ⟨he, World.ownsRow_nil _ _ _ _⟩
theorem Own.len (h : Own w1 w e size v n xs) : xs.length = n * size := h.2.1
theorem Own.form (h : Own w1 w e size v n xs) : ∃ A c, v = .slice A n c := by
  rcases h.2.2 with ⟨rfl, rfl⟩ | ⟨g, cap, cur, rfl, _⟩
  · exact ⟨none, 0, rfl⟩
  · exact ⟨_, cap, rfl⟩
/-- .. and, where there is an element, where it lies. -/
theorem Own.at_ (h : Own w1 w e size v n xs) (hn : 0 < n) : ∃ g c, v = .slice (some ⟨g, 0, none⟩) n c ∧ w1.heap.size ≤ g ∧ g < w.heap.size := by
  rcases h.2.2 with ⟨rfl, rfl⟩ | ⟨g, cap, cur, rfl, hb, hh, _⟩
  · omega
  · exact ⟨g, cap, rfl, hb, (Array.getElem?_eq_some_iff.1 hh).1⟩
theorem Own.row {A : Option Addr} {m c : Nat} (h : Own w1 w e size (.slice A m c) n xs) : Row w A xs := by
  obtain ⟨A', c', hv⟩ := h.form
  injection hv with h1 h2 h3
  subst h2
  exact Row.of_own h.2
theorem Own.cell {g m c : Nat} (h : Own w1 w e size (.slice (some ⟨g, 0, none⟩) m c) n xs) {j : Nat} (hj : j < xs.length) : w.cell? ⟨g, j, none⟩ = xs[j]? := by
  obtain ⟨A', c', hv⟩ := h.form
  injection hv with h1 h2 h3
  subst h2
  exact World.ownsRow.cellAt h.2 j (by rw [← h.len]; exact hj)
theorem Own.free {g m c : Nat} (h : Own w1 w e size (.slice (some ⟨g, 0, none⟩) m c) n xs) (j : Nat) : w.frozen? ⟨g, j, none⟩ = false := by
  obtain ⟨A', c', hv⟩ := h.form
  injection hv with h1 h2 h3
  subst h2
  exact World.ownsRow.frozenAt h.2 j
theorem Own.ge {g m c : Nat} (h : Own w1 w e size (.slice (some ⟨g, 0, none⟩) m c) n xs) : w1.heap.size ≤ g := (World.ownsRow.lt h.2 g rfl).1
theorem Own.store {g m c : Nat} (h : Own w1 w e size (.slice (some ⟨g, 0, none⟩) m c) n xs) (j : Nat) (u : Value) : Own w1 (w.setCell ⟨g, j, none⟩ u) e size (.slice (some ⟨g, 0, none⟩) m c) n (xs.set j u) := by
  obtain ⟨A', c', hv⟩ := h.form
  injection hv with h1 h2 h3
  subst h2
  exact ⟨h.1.setCell h.ge u, (World.ownsRow.stored h.2 j u).1⟩
/-- A store elsewhere, among what is new since w1. -/
theorem Own.other {p : Addr} (h : Own w1 w e size v n xs) (hp : w1.heap.size ≤ p.block) (hne : v.ownBlock ≠ some p.block) (u : Value) : Own w1 (w.setCell p u) e size v n xs :=
  ⟨h.1.setCell hp u, ownsRow_setCell_other h.2 hne u⟩
/-- Own since w1 is own since before. -/
theorem Own.since {w0 : World} (h : Own w1 w e size v n xs) (he : Ext w0 w1) : Own w0 w e size v n xs := by
  refine ⟨he.trans h.1, h.2.1, ?_⟩
  rcases h.2.2 with h1 | ⟨g, cap, cur, rfl, hb, r⟩
  · exact .inl h1
  · exact .inr ⟨g, cap, cur, rfl, Nat.le_trans he.le hb, r⟩
theorem Own.lit (he : Ext w1 w) (cs : Array Value) (n : Nat) (hm : n ≤ maxLen) (hs : cs.size = n * size) : Own w1 (w.alloc (.cells cs e)) e size (.slice (some ⟨w.heap.size, 0, none⟩) n n) n cs.toList :=
  ⟨he.trans (by simp), World.ownsRow_lit w cs n he.le hm hs⟩
end

theorem OwnI.ints {w1 w : World} {A : Option Addr} {m c : Nat} {xs : List Int} (h : OwnI w1 w (.slice A m c) xs) : Ints w A xs := Own.row h

section
variable {ops : Array Oper} {rest : List Oper} {o : Oper} {a : Act} {Q : Exit → Act → World → Prop} {w1 w : World} {e : TypeId} {z : Value} {size bytes : Nat}

/-- 'make([]T, n)'. -/
theorem own_make (hE : ElemInfo e z size bytes) (hg : o.guard = none) (l : Operand) (t : TypeId) (hop : o.op = Op.makeSlice t l l) (ht : Try.prog.underlying t = some (.slice e)) (L : Int) (n : Nat) (hl : a.eval l = .int .i64 L) (hL : L = (n : Int))
    (hb : bytes * n ≤ 281474976710656) (hn : n ≤ maxLen) (he : Ext w1 w)
    (hK : ∀ w', Own w1 w' e size (.slice (some ⟨w.heap.size, 0, none⟩) n n) n (madeCells z.cells (n * size)).toList → Ext w w' → wpList Try.prog ops Q rest (a.put o.dst (.slice (some ⟨w.heap.size, 0, none⟩) n n)) w') :
    wpList Try.prog ops Q (o :: rest) a w := by
  obtain ⟨i, hi, hz0, hz1, hz2⟩ := hE.info
  refine wpList_make_full w hg l l t hop w1.heap.size e i z size ht hi hz0 hz1 .i64 .i64 L L n hl hl hL hL (by rw [hz2]; exact hb) hn he.le fun w' h1 h2 => ?_
  have hx : Ext w w' := (Ext.refl w).grown h2 (fun k hk => by cases hk)
  exact hK w' ⟨he.trans hx, h1⟩ hx

/-- 'append(out, x)', out the call's own: the new cell has just been laid. -/
theorem own_append (hE : ElemInfo e z size bytes) (hg : o.guard = none) (s x : Operand) (t : TypeId) (hop : o.op = .call { callee := .builtin .append, args := #[s, x], argTypes := #[t, t] }) (ht : Try.prog.underlying t = some (.slice e))
    (v : Value) (n : Nat) (xs : List Value) (hs : a.eval s = v) (hown : Own w1 w e size v n xs) (cs : Array Value) (m : Nat) (hx : a.eval x = .slice (some ⟨w.heap.size, 0, none⟩) m m) (hl : cs.size = m * size) (h1 : ∀ u ∈ cs.toList, u.oneCell' = true)
    (hn : (n + m) * bytes ≤ 140737488355328) (hn2 : n + m ≤ maxLen)
    (hK : ∀ v' w', Own w1 w' e size v' (n + m) (xs ++ cs.toList) → (v' = .slice none 0 0 ↔ v = .slice none 0 0 ∧ m = 0) → wpList Try.prog ops Q rest (a.put o.dst v') w') :
    wpList Try.prog ops Q (o :: rest) a (w.alloc (.cells cs e)) := by
  obtain ⟨i, hi, hz0, hz1, hz2⟩ := hE.info
  refine wpList_append_own (w.alloc (.cells cs e)) hg s x t hop w1.heap.size e i z size bytes ht hi hz0 hz1 hz2 hE.zs hE.pos v n xs hs (hown.2.alloc _) ⟨w.heap.size, 0, none⟩ m m cs.toList hx (by simpa using hl) (fun j u hu => ?_) h1 hn2 hn (by have := hown.1.le; simp; omega) fun v' w' h2 h3 h4 => ?_
  · have hadd : (⟨w.heap.size, 0, none⟩ : Addr).add j = ⟨w.heap.size, j, none⟩ := by unfold Addr.add; split <;> simp_all
    rw [hadd, World.cell?_alloc_at _ _ _ _ rfl]
    simpa using hu
  · refine hK v' w' ⟨?_, h2⟩ h4
    exact (hown.1.trans (Ext.alloc (Ext.refl w) _)).grown h3 (fun k hk => (hown.2.lt k hk).1)

/-- 'append(out, xs...)', out the call's own, xs anywhere. -/
theorem own_append_src (hE : ElemInfo e z size bytes) (hg : o.guard = none) (s x : Operand) (t : TypeId) (hop : o.op = .call { callee := .builtin .append, args := #[s, x], argTypes := #[t, t] }) (ht : Try.prog.underlying t = some (.slice e))
    (v : Value) (n : Nat) (xs : List Value) (hs : a.eval s = v) (hown : Own w1 w e size v n xs) (ad : Addr) (m c : Nat) (news : List Value) (hx : a.eval x = .slice (some ad) m c) (hl : news.length = m * size) (hr : Row w (some ad) news) (h1 : ∀ u ∈ news, u.oneCell' = true)
    (hn : (n + m) * bytes ≤ 140737488355328) (hn2 : n + m ≤ maxLen)
    (hK : ∀ v' w', Own w1 w' e size v' (n + m) (xs ++ news) → w.grownBy w' v.ownBlock → wpList Try.prog ops Q rest (a.put o.dst v') w') :
    wpList Try.prog ops Q (o :: rest) a w := by
  obtain ⟨i, hi, hz0, hz1, hz2⟩ := hE.info
  refine wpList_append_own w hg s x t hop w1.heap.size e i z size bytes ht hi hz0 hz1 hz2 hE.zs hE.pos v n xs hs hown.2 ad m c news hx hl (fun j u hu => ?_) h1 hn2 hn hown.1.le fun v' w' h2 h3 h4 => ?_
  · have hj := (List.getElem?_eq_some_iff.1 hu).1
    obtain ⟨ad', he, hc⟩ := hr j hj
    rw [Option.some.inj he]
    exact hc.trans hu
  · exact hK v' w' ⟨hown.1.grown h3 (fun k hk => (hown.2.lt k hk).1), h2⟩ h3

/-- .. one number. -/
theorem own_append_int (hg : o.guard = none) (s x : Operand) (hop : o.op = .call { callee := .builtin .append, args := #[s, x], argTypes := #[30, 30] })
    (v : Value) (n : Nat) (xs : List Value) (hs : a.eval s = v) (hown : Own w1 w 3 1 v n xs) (y : Int) (hx : a.eval x = .slice (some ⟨w.heap.size, 0, none⟩) 1 1) (hn : n ≤ 1000000)
    (hK : ∀ v' w', Own w1 w' 3 1 v' (n + 1) (xs ++ [vint y]) → wpList Try.prog ops Q rest (a.put o.dst v') w') :
    wpList Try.prog ops Q (o :: rest) a (w.alloc (.cells #[.int .i64 y] 3)) :=
  own_append int_elem hg s x 30 hop Try.underlying30 v n xs hs hown #[.int .i64 y] 1 hx rfl (by intro u hu; simp at hu; subst hu; rfl) (by omega) (by unfold maxLen; omega) fun v' w' h _ => hK v' w' h
end
end Go.Proofs.Yteilglljigjefaa

/- Loops that close: the first angles. Plain Lean. -/
namespace Go.Proofs.Yteilglljigjefaa
/-- How far a place of a panel is from another place, times D. -/
def gapS (p : Ps) (a b : Sp) : Sp := ⟨(plc p a).x - b.x * p.d, (plc p a).y - b.y * p.d⟩
def gap0 (p : Ps) (a b : Sp) : Bool := decide (gapS p a b = s0)
/-- The last pose, with angles. -/
def endP : Ps → List Hg → List Nat → Ps
  | p, h :: t, n :: ns => endP (flw p h (trn n)) t ns
  | p, _, _ => p
/-- The first angles for which the gap is 0. -/
def clo (a b : Sp) : List Hg → Ps → Option (List Nat)
  | [], p => if gap0 p a b then some [] else none
  | h :: t, p => (List.range 36).findSome? fun n => (clo a b t (flw p h (trn n))).map (n :: ·)
/-- Whether a list is earlier than another one, by the first numbers that differ. -/
def lexB : List Nat → List Nat → Bool
  | a :: u, b :: v => if a = b then lexB u v else decide (a < b)
  | _, _ => false
theorem clo_none {a b : Sp} : ∀ (hs : List Hg) (p : Ps), clo a b hs p = none → ∀ o : List Nat, o.length = hs.length → (∀ n ∈ o, n < 36) → gap0 (endP p hs o) a b = false
  | [], p, h, o, _, _ => by
    unfold clo at h
    cases hg : gap0 p a b with
    | true => rw [hg] at h; simp at h
    | false => cases o <;> exact hg
  | hh :: t, p, h, o, hl, ho => by
    cases o with
    | nil => simp at hl
    | cons n ns =>
      unfold clo at h
      have h1 := List.findSome?_eq_none_iff.1 h n (by simp; exact ho n (by simp))
      rw [Option.map_eq_none_iff] at h1
      exact clo_none t _ h1 ns (by simpa using hl) fun m hm => ho m (by simp [hm])
theorem range_split {n m : Nat} {l1 l2 : List Nat} (h : List.range m = l1 ++ n :: l2) : l1 = List.range n ∧ n < m := by
  have h1 : (List.range m)[l1.length]? = some n := by rw [h]; simp
  obtain ⟨hlt, e⟩ := List.getElem?_eq_some_iff.1 h1
  have h2 : l1.length = n := by simpa using e
  have h3 : l1 = (List.range m).take l1.length := by rw [h, List.take_left]
  have h4 : n < m := by rw [← h2]; simpa using hlt
  refine ⟨?_, h4⟩
  rw [h3, List.take_range, h2]
  congr 1
  omega
theorem clo_some {a b : Sp} : ∀ (hs : List Hg) (p : Ps) (r : List Nat), clo a b hs p = some r → r.length = hs.length ∧ (∀ n ∈ r, n < 36) ∧ gap0 (endP p hs r) a b = true ∧
    ∀ o : List Nat, o.length = hs.length → (∀ n ∈ o, n < 36) → lexB o r = true → gap0 (endP p hs o) a b = false
  | [], p, r, h => by
    unfold clo at h
    cases hg : gap0 p a b with
    | false => rw [hg] at h; simp at h
    | true =>
      rw [hg] at h
      injection h with h
      subst h
      refine ⟨rfl, by simp, hg, fun o hl _ hx => ?_⟩
      obtain rfl : o = [] := List.eq_nil_of_length_eq_zero hl
      simp [lexB] at hx
  | hh :: t, p, r, h => by
    unfold clo at h
    obtain ⟨l1, n, l2, hl, hn, hno⟩ := List.findSome?_eq_some_iff.1 h
    obtain ⟨r', hr', rfl⟩ := Option.map_eq_some_iff.1 hn
    obtain ⟨i1, i2, i3, i4⟩ := clo_some t _ r' hr'
    obtain ⟨e1, e2⟩ := range_split hl
    refine ⟨by simp [i1], fun m hm => ?_, i3, fun o ho hb hx => ?_⟩
    · rcases List.mem_cons.1 hm with rfl | hm
      · exact e2
      · exact i2 m hm
    · cases o with
      | nil => simp at ho
      | cons c cs =>
        unfold lexB at hx
        by_cases hc : c = n
        · subst hc
          rw [if_pos rfl] at hx
          exact i4 cs (by simpa using ho) (fun m hm => hb m (by simp [hm])) hx
        · rw [if_neg hc] at hx
          have hlt := of_decide_eq_true hx
          have h1 := hno c (by rw [e1]; simpa using hlt)
          rw [Option.map_eq_none_iff] at h1
          exact clo_none t _ h1 cs (by simpa using ho) fun m hm => hb m (by simp [hm])
/-- A linkage with other angles. -/
def bent : List Hg → List Nat → List Hg
  | h :: t, n :: ns => ⟨h.a, h.b, n⟩ :: bent t ns
  | l, _ => l
/-- The poses from one on. -/
def endH : Ps → List Hg → Ps
  | p, [] => p
  | p, h :: t => endH (flw p h (trn h.ang.toNat)) t
theorem endP_bent : ∀ (hs : List Hg) (p : Ps) (o : List Nat), o.length = hs.length → endP p hs o = endH p (bent hs o)
  | [], p, o, h => by
    obtain rfl : o = [] := List.eq_nil_of_length_eq_zero h
    rfl
  | hh :: t, p, [], h => by simp at h
  | hh :: t, p, n :: ns, h => by
    show endP (flw p hh (trn n)) t ns = endH (flw p ⟨hh.a, hh.b, n⟩ (trn ((n : Int)).toNat)) (bent t ns)
    rw [endP_bent t _ ns (by simpa using h)]
    rfl
theorem endH_snoc : ∀ (hs : List Hg) (p : Ps) (h : Hg), endH p (hs ++ [h]) = flw (endH p hs) h (trn h.ang.toNat)
  | [], _, _ => rfl
  | _ :: t, _, h => endH_snoc t _ h
theorem posF_take (hs : List Hg) : ∀ k, k ≤ hs.length → posF hs k = endH pose0 (hs.take k)
  | 0, _ => rfl
  | k + 1, h => by
    have e : hs.getD k hg0 = hs[k] := by simp [List.getD, List.getElem?_eq_getElem (show k < hs.length by omega)]
    rw [posF, e, posF_take hs k (by omega), List.take_add_one, List.getElem?_eq_getElem (show k < hs.length by omega), Option.toList_some, endH_snoc]
theorem posF_end (hs : List Hg) : posF hs hs.length = endH pose0 hs := by rw [posF_take hs _ (Nat.le_refl _), List.take_length]
end Go.Proofs.Yteilglljigjefaa

/- Panels and linkages that are valid; how large the numbers are. Plain Lean. -/
namespace Go.Proofs.Yteilglljigjefaa
/-- A corner: a place, to be divided by a number. -/
structure Cn where
  at_ : Sp
  d : Int
  deriving DecidableEq
def ptA (p : List Sp) (i : Nat) : Sp := p.getD i s0
theorem ptA_at {p : List Sp} {i : Nat} (h : i < p.length) : ptA p i = p[i] := by simp [ptA, List.getD, h]
def cvxAt (p : List Sp) (i k : Nat) : Prop := k ≠ i → k ≠ (i + 1) % p.length → 0 < sd (ptA p i) (ptA p ((i + 1) % p.length)) (ptA p k)
instance (p : List Sp) (i k : Nat) : Decidable (cvxAt p i k) := by unfold cvxAt; infer_instance
def panelP (p : List Sp) : Prop := (3 ≤ p.length ∧ p.length ≤ 8) ∧ (∀ s ∈ p, spotB s) ∧ ∀ i, i < p.length → ∀ k, k < p.length → cvxAt p i k
instance (p : List Sp) : Decidable (panelP p) := by unfold panelP; infer_instance
def panelB (p : List Sp) : Bool := decide (panelP p)
theorem panelP.cvx {p : List Sp} (h : panelP p) : Cvx (ptA p) p.length := ⟨h.1.1, fun i k hi hk h1 h2 => h.2.2 i hi k hk h1 h2⟩
theorem panelP.spot {p : List Sp} (h : panelP p) {i : Nat} (hi : i < p.length) : spotB (ptA p i) := by rw [ptA_at hi]; exact h.2.1 _ (List.getElem_mem hi)
def linkP (ps : List (List Sp)) (hs : List Hg) : Prop := (1 ≤ ps.length ∧ ps.length ≤ 4) ∧ hs.length + 1 = ps.length ∧ (∀ p ∈ ps, panelP p) ∧ ∀ h ∈ hs, hingeB h
instance (ps : List (List Sp)) (hs : List Hg) : Decidable (linkP ps hs) := by unfold linkP; infer_instance
def linkB (ps : List (List Sp)) (hs : List Hg) : Bool := decide (linkP ps hs)
def checkE (ps : List (List Sp)) (hs : List Hg) : Int := if linkB ps hs = true then 0 else 50
def posesL (hs : List Hg) : List Ps := (List.range (hs.length + 1)).map (posF hs)
def crn (p : Ps) (panel : List Sp) : List Cn := panel.map fun s => ⟨plc p s, p.d⟩
theorem posesL_len (hs : List Hg) : (posesL hs).length = hs.length + 1 := by simp [posesL]
theorem posesL_at {hs : List Hg} {k : Nat} (h : k < (posesL hs).length) : (posesL hs)[k] = posF hs k := by simp [posesL]
theorem crn_len (p : Ps) (panel : List Sp) : (crn p panel).length = panel.length := by simp [crn]
theorem crn_at {p : Ps} {panel : List Sp} {k : Nat} (h : k < (crn p panel).length) : (crn p panel)[k] = ⟨plc p (ptA panel k), p.d⟩ := by
  have h' : k < panel.length := by simpa [crn] using h
  rw [ptA_at h']
  simp [crn]
/-! ### How large -/
theorem pose_mono {p : Ps} {k m : Nat} (h : PoseOk p k) (hk : k ≤ m) : PoseOk p m := by
  have hd := h.d0
  have hm : 200 * (k : Int) * p.d ≤ 200 * (m : Int) * p.d := Int.mul_le_mul_of_nonneg_right (by omega) (by omega)
  have hp : (25 : Int) ^ k ≤ 25 ^ m := by
    have := Nat.pow_le_pow_right (n := 25) (by omega) hk
    exact_mod_cast this
  have := h.d1
  have := h.x0
  have := h.x1
  have := h.y0
  have := h.y1
  exact ⟨h.d0, by omega, h.pq, by omega, by omega, by omega, by omega⟩
/-- The numbers of a place of a panel. -/
theorem pose_small {p : Ps} (h : PoseOk p 3) : (1 ≤ p.d ∧ p.d ≤ 15625) ∧ (-15625 ≤ p.p ∧ p.p ≤ 15625) ∧ (-15625 ≤ p.q ∧ p.q ≤ 15625) ∧ (-9375000 ≤ p.x ∧ p.x ≤ 9375000) ∧ (-9375000 ≤ p.y ∧ p.y ≤ 9375000) := by
  have h1 := h.d0
  have h2 : p.d ≤ 25 ^ 3 := h.d1
  have := h.le
  have := h.x0
  have := h.x1
  have := h.y0
  have := h.y1
  omega
theorem plc_small {p : Ps} (h : PoseOk p 3) {s : Sp} (hs : spotB s) : (-10937500 ≤ (plc p s).x ∧ (plc p s).x ≤ 10937500) ∧ (-10937500 ≤ (plc p s).y ∧ (plc p s).y ≤ 10937500) := by
  have h1 := h.d0
  have h2 : p.d ≤ 25 ^ 3 := h.d1
  have := h.plc hs
  omega
theorem edge_small {p : Ps} (h : PoseOk p 3) {s t : Sp} (hs : spotB s) (ht : spotB t) : (-3125000 ≤ (plc p t).x - (plc p s).x ∧ (plc p t).x - (plc p s).x ≤ 3125000) ∧ (-3125000 ≤ (plc p t).y - (plc p s).y ∧ (plc p t).y - (plc p s).y ≤ 3125000) := by
  obtain ⟨⟨d1, d2⟩, ⟨p1, p2⟩, ⟨q1, q2⟩, _, _⟩ := pose_small h
  obtain ⟨⟨s1, s2⟩, s3, s4⟩ := hs
  obtain ⟨⟨t1, t2⟩, t3, t4⟩ := ht
  have e1 := prod_le (a := p.p) (d := 15625) (s := t.x - s.x) (m := 100) (by omega) (by omega) (by omega) (by omega)
  have e2 := prod_le (a := p.p) (d := 15625) (s := t.y - s.y) (m := 100) (by omega) (by omega) (by omega) (by omega)
  have e3 := prod_le (a := p.q) (d := 15625) (s := t.x - s.x) (m := 100) (by omega) (by omega) (by omega) (by omega)
  have e4 := prod_le (a := p.q) (d := 15625) (s := t.y - s.y) (m := 100) (by omega) (by omega) (by omega) (by omega)
  rw [Int.mul_sub] at e1 e2 e3 e4
  unfold plc
  simp only
  omega
theorem side_fit {ax ay bx bY cx cy d e : Int} (hd : 1 ≤ d ∧ d ≤ 15625) (he : 1 ≤ e ∧ e ≤ 15625) (hax : -10937500 ≤ ax ∧ ax ≤ 10937500) (hay : -10937500 ≤ ay ∧ ay ≤ 10937500) (hcx : -10937500 ≤ cx ∧ cx ≤ 10937500) (hcy : -10937500 ≤ cy ∧ cy ≤ 10937500)
    (hu : -3125000 ≤ bx - ax ∧ bx - ax ≤ 3125000) (hv : -3125000 ≤ bY - ay ∧ bY - ay ≤ 3125000) :
    (-170898437500 ≤ cy * d ∧ cy * d ≤ 170898437500) ∧ (-170898437500 ≤ ay * e ∧ ay * e ≤ 170898437500) ∧ (-170898437500 ≤ cx * d ∧ cx * d ≤ 170898437500) ∧ (-170898437500 ≤ ax * e ∧ ax * e ≤ 170898437500) ∧
    (-1068115234375000000 ≤ (bx - ax) * (cy * d - ay * e) ∧ (bx - ax) * (cy * d - ay * e) ≤ 1068115234375000000) ∧ (-1068115234375000000 ≤ (bY - ay) * (cx * d - ax * e) ∧ (bY - ay) * (cx * d - ax * e) ≤ 1068115234375000000) := by
  have e1 := prod_le (a := cy) (d := 10937500) (s := d) (m := 15625) (by omega) (by omega) (by omega) (by omega)
  have e2 := prod_le (a := ay) (d := 10937500) (s := e) (m := 15625) (by omega) (by omega) (by omega) (by omega)
  have e3 := prod_le (a := cx) (d := 10937500) (s := d) (m := 15625) (by omega) (by omega) (by omega) (by omega)
  have e4 := prod_le (a := ax) (d := 10937500) (s := e) (m := 15625) (by omega) (by omega) (by omega) (by omega)
  have e5 := prod_le (a := bx - ax) (d := 3125000) (s := cy * d - ay * e) (m := 341796875000) (by omega) (by omega) (by omega) (by omega)
  have e6 := prod_le (a := bY - ay) (d := 3125000) (s := cx * d - ax * e) (m := 341796875000) (by omega) (by omega) (by omega) (by omega)
  simp only [Int.reduceMul] at e1 e2 e3 e4 e5 e6
  exact ⟨e1, e2, e3, e4, e5, e6⟩
/-- Corners whose numbers are small; the first two are those of an edge. -/
structure CnOk (c : Cn) : Prop where
  d : 1 ≤ c.d ∧ c.d ≤ 15625
  x : -10937500 ≤ c.at_.x ∧ c.at_.x ≤ 10937500
  y : -10937500 ≤ c.at_.y ∧ c.at_.y ≤ 10937500
structure EdgeOk (a b : Cn) : Prop where
  ca : CnOk a
  cb : CnOk b
  x : -3125000 ≤ b.at_.x - a.at_.x ∧ b.at_.x - a.at_.x ≤ 3125000
  y : -3125000 ≤ b.at_.y - a.at_.y ∧ b.at_.y - a.at_.y ≤ 3125000
  d : b.d = a.d
def sideC (a b c : Cn) : Int := sideS a.at_ b.at_ a.d c.at_ c.d
/-- All edges and corners of a list. -/
structure CnsOk (l : List Cn) : Prop where
  len : 3 ≤ l.length ∧ l.length ≤ 8
  ok : ∀ i (hi : i < l.length) k (hk : k < l.length), EdgeOk l[i] l[k]
theorem crn_ok {p : Ps} {panel : List Sp} (hp : PoseOk p 3) (hq : panelP panel) : CnsOk (crn p panel) := by
  have hc : ∀ s, spotB s → CnOk ⟨plc p s, p.d⟩ := fun s hs => ⟨(pose_small hp).1, (plc_small hp hs).1, (plc_small hp hs).2⟩
  refine ⟨by rw [crn_len]; exact hq.1, fun i hi k hk => ?_⟩
  rw [crn_at hi, crn_at hk]
  rw [crn_len] at hi hk
  exact ⟨hc _ (hq.spot hi), hc _ (hq.spot hk), (edge_small hp (hq.spot hi) (hq.spot hk)).1, (edge_small hp (hq.spot hi) (hq.spot hk)).2, rfl⟩
theorem link_pose {ps : List (List Sp)} {hs : List Hg} (h : linkP ps hs) {k : Nat} (hk : k < ps.length) : PoseOk (posF hs k) 3 := by
  have h1 := h.1.2
  have h2 := h.2.1
  exact pose_mono (posF_ok h.2.2.2 k (by omega)) (by omega)
theorem link_crn {ps : List (List Sp)} {hs : List Hg} (h : linkP ps hs) {k : Nat} (hk : k < ps.length) : CnsOk (crn (posF hs k) ps[k]) := crn_ok (link_pose h hk) (h.2.2.1 _ (List.getElem_mem hk))
end Go.Proofs.Yteilglljigjefaa

/- Proofs of clashes and of lines between. Plain Lean. -/
namespace Go.Proofs.Yteilglljigjefaa
def c0 : Cn := ⟨s0, 1⟩
def cAt (c : List Cn) (i : Nat) : Cn := c.getD i c0
theorem cAt_at {c : List Cn} {i : Nat} (h : i < c.length) : cAt c i = c[i] := by simp [cAt, List.getD, h]
theorem cAt_mem {c : List Cn} {i : Nat} (h : i < c.length) : cAt c i ∈ c := by rw [cAt_at h]; exact List.getElem_mem h
/-- An edge's number for a corner. -/
def eside (c : List Cn) (i : Nat) (o : Cn) : Int := sideC (cAt c i) (cAt c ((i + 1) % c.length)) o
def edgeOut (c other : List Cn) (i : Nat) : Prop := ∀ o ∈ other, eside c i o ≤ 0
instance (c other : List Cn) (i : Nat) : Decidable (edgeOut c other i) := by unfold edgeOut; infer_instance
def partP (c other : List Cn) : Prop := ∃ i, i < c.length ∧ edgeOut c other i
instance (c other : List Cn) : Decidable (partP c other) := by unfold partP; infer_instance
def partB (c other : List Cn) : Bool := decide (partP c other)
def clashB (a b : List Cn) : Bool := !partB a b && !partB b a
theorem clashB_comm (a b : List Cn) : clashB a b = clashB b a := Bool.and_comm _ _
theorem eside_crn {p q : Ps} {A : List Sp} {i : Nat} (hi : i < A.length) (b : Sp) : eside (crn p A) i ⟨plc q b, q.d⟩ = sideS (plc p (ptA A i)) (plc p (ptA A ((i + 1) % A.length))) p.d (plc q b) q.d := by
  have h1 : (i + 1) % A.length < A.length := Nat.mod_lt _ (by omega)
  unfold eside sideC
  rw [crn_len, cAt_at (by rw [crn_len]; exact hi), cAt_at (by rw [crn_len]; exact h1), crn_at, crn_at]
theorem edgeOut_crn {p q : Ps} {A B : List Sp} {i : Nat} (hi : i < A.length) : edgeOut (crn p A) (crn q B) i ↔ ∀ j, j < B.length → sideS (plc p (ptA A i)) (plc p (ptA A ((i + 1) % A.length))) p.d (plc q (ptA B j)) q.d ≤ 0 := by
  unfold edgeOut
  constructor
  · intro h j hj
    have := h ⟨plc q (ptA B j), q.d⟩ (List.mem_map.2 ⟨ptA B j, by rw [ptA_at hj]; exact List.getElem_mem hj, rfl⟩)
    rwa [eside_crn hi] at this
  · intro h o ho
    obtain ⟨s, hs, rfl⟩ := List.mem_map.1 ho
    obtain ⟨j, hj, rfl⟩ := List.getElem_of_mem hs
    have := h j hj
    rw [ptA_at hj] at this
    rwa [eside_crn hi]
theorem partP_crn {p q : Ps} {A B : List Sp} : partP (crn p A) (crn q B) ↔ Ptd (fun i => plc p (ptA A i)) A.length p.d (fun j => plc q (ptA B j)) B.length q.d := by
  unfold partP Ptd
  rw [crn_len]
  constructor
  · rintro ⟨i, hi, h⟩
    exact ⟨i, hi, (edgeOut_crn hi).1 h⟩
  · rintro ⟨i, hi, h⟩
    exact ⟨i, hi, (edgeOut_crn hi).2 h⟩
theorem clashB_crn {p q : Ps} {A B : List Sp} : clashB (crn p A) (crn q B) = false ↔ Ptd (fun i => plc p (ptA A i)) A.length p.d (fun j => plc q (ptA B j)) B.length q.d ∨ Ptd (fun j => plc q (ptA B j)) B.length q.d (fun i => plc p (ptA A i)) A.length p.d := by
  rw [← partP_crn, ← partP_crn]
  unfold clashB partB
  by_cases h1 : partP (crn p A) (crn q B) <;> by_cases h2 : partP (crn q B) (crn p A) <;> simp [h1, h2]
/-- A proof of whether two panels clash. -/
structure Apr where
  clear : Bool
  A : Int
  B : Int
  C : Int
  E : Int
  ins : List Int
def lineN (r : Apr) (c : Cn) : Int := r.E * (r.A * c.at_.x + r.B * c.at_.y)
def btwP (r : Apr) (a b : List Cn) : Prop := r.ins.length = 0 ∧ (-10000000 ≤ r.A ∧ r.A ≤ 10000000) ∧ (-10000000 ≤ r.B ∧ r.B ≤ 10000000) ∧ ¬ (r.A = 0 ∧ r.B = 0) ∧ (-100000000000000 ≤ r.C ∧ r.C ≤ 100000000000000) ∧ (1 ≤ r.E ∧ r.E ≤ 20000) ∧
  (∀ c ∈ a, lineN r c ≤ r.C * c.d) ∧ ∀ c ∈ b, r.C * c.d ≤ lineN r c
def inAt (c other : List Cn) (n : Nat) (x : Int) : Prop := 0 ≤ x ∧ x < other.length ∧ 0 < eside c n (cAt other x.toNat)
instance (c other : List Cn) (n : Nat) (x : Int) : Decidable (inAt c other n x) := by unfold inAt; infer_instance
def insP (r : Apr) (a b : List Cn) : Prop := (r.A = 0 ∧ r.B = 0 ∧ r.C = 0 ∧ r.E = 0) ∧ r.ins.length = a.length + b.length ∧ (∀ n, n < a.length → inAt a b n (r.ins.getD n 0)) ∧ ∀ n, n < b.length → inAt b a n (r.ins.getD (a.length + n) 0)
instance (r : Apr) (a b : List Cn) : Decidable (btwP r a b) := by unfold btwP; infer_instance
instance (r : Apr) (a b : List Cn) : Decidable (insP r a b) := by unfold insP; infer_instance
def rightP (r : Apr) (a b : List Cn) : Prop := if r.clear = true then btwP r a b else insP r a b
instance (r : Apr) (a b : List Cn) : Decidable (rightP r a b) := by unfold rightP; infer_instance
def rightB (r : Apr) (a b : List Cn) : Bool := decide (rightP r a b)
theorem inAt_not {c other : List Cn} (h : ∀ n, n < c.length → ∃ x, inAt c other n x) : ¬ partP c other := by
  rintro ⟨i, hi, ho⟩
  obtain ⟨x, h1, h2, h3⟩ := h i hi
  have := ho _ (cAt_mem (c := other) (i := x.toNat) (by omega))
  omega
/-- A right proof tells whether the panels clash. -/
theorem right_tells {p q : Ps} {k m : Nat} {A B : List Sp} {r : Apr} (hp : PoseOk p k) (hq : PoseOk q m) (hA : panelP A) (hB : panelP B) (h : rightP r (crn p A) (crn q B)) : clashB (crn p A) (crn q B) = !r.clear := by
  unfold rightP at h
  cases hc : r.clear
  · rw [if_neg (by simp [hc])] at h
    obtain ⟨_, _, h1, h2⟩ := h
    have n1 := inAt_not fun n hn => ⟨_, h1 n hn⟩
    have n2 := inAt_not fun n hn => ⟨_, h2 n hn⟩
    unfold clashB partB
    simp [n1, n2]
  · rw [if_pos hc] at h
    obtain ⟨_, _, _, hAB, _, hE, h1, h2⟩ := h
    rw [Bool.not_true, clashB_crn]
    refine Btw.ptd (A := r.A) (B := r.B) (C := r.C) (E := r.E) ⟨fun i hi => ?_, fun j hj => ?_⟩ (hA.cvx.plc hp) (hB.cvx.plc hq) (by omega) hp.d0 hq.d0 hAB
    · exact h1 ⟨plc p (ptA A i), p.d⟩ (List.mem_map.2 ⟨ptA A i, by rw [ptA_at hi]; exact List.getElem_mem hi, rfl⟩)
    · exact h2 ⟨plc q (ptA B j), q.d⟩ (List.mem_map.2 ⟨ptA B j, by rw [ptA_at hj]; exact List.getElem_mem hj, rfl⟩)
/-- The line of an edge, as a proof. -/
def thrA (c : List Cn) (i : Nat) (sg : Int) : Apr :=
  let a := cAt c i
  let b := cAt c ((i + 1) % c.length)
  let x := sg * (b.at_.y - a.at_.y)
  let y := sg * (a.at_.x - b.at_.x)
  ⟨true, x, y, x * a.at_.x + y * a.at_.y, a.d, []⟩
theorem thr_ok {c : List Cn} (h : CnsOk c) {i : Nat} (hi : i < c.length) {sg : Int} (hs : sg = 1 ∨ sg = -1) :
    (-3125000 ≤ (thrA c i sg).A ∧ (thrA c i sg).A ≤ 3125000) ∧ (-3125000 ≤ (thrA c i sg).B ∧ (thrA c i sg).B ≤ 3125000) ∧ (-34179687500000 ≤ (thrA c i sg).A * (cAt c i).at_.x ∧ (thrA c i sg).A * (cAt c i).at_.x ≤ 34179687500000) ∧
    (-34179687500000 ≤ (thrA c i sg).B * (cAt c i).at_.y ∧ (thrA c i sg).B * (cAt c i).at_.y ≤ 34179687500000) ∧ (1 ≤ (thrA c i sg).E ∧ (thrA c i sg).E ≤ 15625) := by
  have h1 : (i + 1) % c.length < c.length := Nat.mod_lt _ (by omega)
  have e := h.ok i hi _ h1
  rw [← cAt_at hi, ← cAt_at h1] at e
  have ha := e.ca
  have hx := e.x
  have hy := e.y
  have k1 : -3125000 ≤ (thrA c i sg).A ∧ (thrA c i sg).A ≤ 3125000 := by rcases hs with rfl | rfl <;> simp only [thrA] <;> omega
  have k2 : -3125000 ≤ (thrA c i sg).B ∧ (thrA c i sg).B ≤ 3125000 := by rcases hs with rfl | rfl <;> simp only [thrA] <;> omega
  have k3 := prod_le k1.1 k1.2 ha.x.1 ha.x.2
  have k4 := prod_le k2.1 k2.2 ha.y.1 ha.y.2
  exact ⟨k1, k2, k3, k4, ha.d⟩
theorem thr_right1 {p q : Ps} {A B : List Sp} (hp : PoseOk p 3) (hA : panelP A) {i : Nat} (hi : i < A.length) (h : edgeOut (crn p A) (crn q B) i) : rightP (thrA (crn p A) i 1) (crn p A) (crn q B) := by
  have hi' : i < (crn p A).length := by rw [crn_len]; exact hi
  have h1 : (i + 1) % A.length < A.length := Nat.mod_lt _ (by omega)
  obtain ⟨k1, k2, k3, k4, k5⟩ := thr_ok (crn_ok hp hA) hi' (sg := 1) (.inl rfl)
  have hb := btw_edge (e := q.d) (L := fun j => plc q (ptA B j)) (m := B.length) (hA.cvx.plc hp) hp.d0 hi ((edgeOut_crn hi).1 h)
  have hn := edge_ne (hA.cvx.plc hp) hi
  have eA : cAt (crn p A) i = ⟨plc p (ptA A i), p.d⟩ := by rw [cAt_at hi', crn_at]
  have eB : cAt (crn p A) ((i + 1) % A.length) = ⟨plc p (ptA A ((i + 1) % A.length)), p.d⟩ := by rw [cAt_at (by rw [crn_len]; exact h1), crn_at]
  have eC : (thrA (crn p A) i 1).C = (thrA (crn p A) i 1).A * (cAt (crn p A) i).at_.x + (thrA (crn p A) i 1).B * (cAt (crn p A) i).at_.y := rfl
  have fA : (thrA (crn p A) i 1).A = (plc p (ptA A ((i + 1) % A.length))).y - (plc p (ptA A i)).y := by simp only [thrA, crn_len, eA, eB, Int.one_mul]
  have fB : (thrA (crn p A) i 1).B = (plc p (ptA A i)).x - (plc p (ptA A ((i + 1) % A.length))).x := by simp only [thrA, crn_len, eA, eB, Int.one_mul]
  have fE : (thrA (crn p A) i 1).E = p.d := by simp only [thrA, eA]
  unfold rightP
  rw [if_pos (show (thrA _ _ _).clear = true from rfl)]
  refine ⟨rfl, by omega, by omega, ?_, by omega, by omega, fun c hc => ?_, fun c hc => ?_⟩
  · rw [fA, fB]; exact hn
  · obtain ⟨s, hs, rfl⟩ := List.mem_map.1 hc
    obtain ⟨j, hj, rfl⟩ := List.getElem_of_mem hs
    have := hb.1 j hj
    simp only [ptA_at hj] at this
    unfold lineN
    rw [eC, fE, fA, fB, eA]
    exact this
  · obtain ⟨s, hs, rfl⟩ := List.mem_map.1 hc
    obtain ⟨j, hj, rfl⟩ := List.getElem_of_mem hs
    have := hb.2 j hj
    simp only [ptA_at hj] at this
    unfold lineN
    rw [eC, fE, fA, fB, eA]
    exact this
theorem thr_right2 {p q : Ps} {A B : List Sp} (hp : PoseOk p 3) (hA : panelP A) {i : Nat} (hi : i < A.length) (h : edgeOut (crn p A) (crn q B) i) : rightP (thrA (crn p A) i (-1)) (crn q B) (crn p A) := by
  have hi' : i < (crn p A).length := by rw [crn_len]; exact hi
  have h1 : (i + 1) % A.length < A.length := Nat.mod_lt _ (by omega)
  obtain ⟨k1, k2, k3, k4, k5⟩ := thr_ok (crn_ok hp hA) hi' (sg := -1) (.inr rfl)
  have hb := btw_edge2 (e := q.d) (L := fun j => plc q (ptA B j)) (m := B.length) (hA.cvx.plc hp) hp.d0 hi ((edgeOut_crn hi).1 h)
  have hn := edge_ne (hA.cvx.plc hp) hi
  have eA : cAt (crn p A) i = ⟨plc p (ptA A i), p.d⟩ := by rw [cAt_at hi', crn_at]
  have eB : cAt (crn p A) ((i + 1) % A.length) = ⟨plc p (ptA A ((i + 1) % A.length)), p.d⟩ := by rw [cAt_at (by rw [crn_len]; exact h1), crn_at]
  have eC : (thrA (crn p A) i (-1)).C = (thrA (crn p A) i (-1)).A * (cAt (crn p A) i).at_.x + (thrA (crn p A) i (-1)).B * (cAt (crn p A) i).at_.y := rfl
  have fA : (thrA (crn p A) i (-1)).A = -((plc p (ptA A ((i + 1) % A.length))).y - (plc p (ptA A i)).y) := by simp only [thrA, crn_len, eA, eB, Int.neg_mul, Int.one_mul]
  have fB : (thrA (crn p A) i (-1)).B = -((plc p (ptA A i)).x - (plc p (ptA A ((i + 1) % A.length))).x) := by simp only [thrA, crn_len, eA, eB, Int.neg_mul, Int.one_mul]
  have fE : (thrA (crn p A) i (-1)).E = p.d := by simp only [thrA, eA]
  unfold rightP
  rw [if_pos (show (thrA _ _ _).clear = true from rfl)]
  refine ⟨rfl, by omega, by omega, ?_, by omega, by omega, fun c hc => ?_, fun c hc => ?_⟩
  · rw [fA, fB]
    omega
  · obtain ⟨s, hs, rfl⟩ := List.mem_map.1 hc
    obtain ⟨j, hj, rfl⟩ := List.getElem_of_mem hs
    have := hb.1 j hj
    simp only [ptA_at hj] at this
    unfold lineN
    rw [eC, fE, fA, fB, eA]
    exact this
  · obtain ⟨s, hs, rfl⟩ := List.mem_map.1 hc
    obtain ⟨j, hj, rfl⟩ := List.getElem_of_mem hs
    have := hb.2 j hj
    simp only [ptA_at hj] at this
    unfold lineN
    rw [eC, fE, fA, fB, eA]
    exact this
end Go.Proofs.Yteilglljigjefaa

/- Places, corners, hinges and poses in memory. -/
namespace Go.Proofs.Yteilglljigjefaa
open Go.RowKit
def hgA (l : List Hg) (k : Nat) : Hg := l.getD k hg0
theorem hgA_at {l : List Hg} {k : Nat} (h : k < l.length) : hgA l k = l[k] := by simp [hgA, List.getD, h]
def psA (l : List Ps) (k : Nat) : Ps := l.getD k pose0
theorem psA_at {l : List Ps} {k : Nat} (h : k < l.length) : psA l k = l[k] := by simp [psA, List.getD, h]

def Sp.cells (s : Sp) : List Value := [vint s.x, vint s.y]
abbrev Sp.val (s : Sp) : Value := .agg #[vint s.x, vint s.y]
def SRow (w : World) (A : Option Addr) (l : List Sp) : Prop := Row w A (l.map Sp.cells).flatten
theorem SRow.ext {w w' : World} {A : Option Addr} {l : List Sp} (h : SRow w A l) (he : Ext w w') : SRow w' A l := Row.ext h he
theorem SRow.nil (w : World) (A : Option Addr) : SRow w A [] := Row.nil w A
theorem Sp.cells_len (l : List Sp) : (l.map Sp.cells).flatten.length = l.length * 2 := by
  rw [flatten_len 2 _ (by simp [Sp.cells]), List.length_map]
theorem SRow.at_ {w : World} {A : Option Addr} {l : List Sp} (h : SRow w A l) {k : Nat} (hk : k < l.length) :
    ∃ ad, A = some ad ∧ (∀ w', Ext w w' → w'.cell? (ad.add (k * 2)) = some (.int .i64 (ptA l k).x)) ∧
      (∀ w', Ext w w' → w'.cell? ⟨(ad.add (k * 2)).block, (ad.add (k * 2)).off + 1, none⟩ = some (.int .i64 (ptA l k).y)) := by
  rw [ptA_at hk]
  obtain ⟨ad, ha, hc⟩ := Row.struct (size := 2) h (by simp [Sp.cells]) (k := k) (by simpa using hk) (by omega)
  refine ⟨ad, ha, fun w' he => ?_, fun w' he => ?_⟩
  · have := hc 0 (by omega) w' he
    rw [add_zero_] at this
    simpa [Sp.cells] using this
  · have := hc 1 (by omega) w' he
    rw [add_lit _ _ (by omega)] at this
    simpa [Sp.cells] using this

def Cn.cells (s : Cn) : List Value := [vint s.at_.x, vint s.at_.y, vint s.d]
abbrev Cn.val (s : Cn) : Value := .agg #[vint s.at_.x, vint s.at_.y, vint s.d]
def CRow (w : World) (A : Option Addr) (l : List Cn) : Prop := Row w A (l.map Cn.cells).flatten
theorem CRow.ext {w w' : World} {A : Option Addr} {l : List Cn} (h : CRow w A l) (he : Ext w w') : CRow w' A l := Row.ext h he
theorem CRow.nil (w : World) (A : Option Addr) : CRow w A [] := Row.nil w A
theorem Cn.cells_len (l : List Cn) : (l.map Cn.cells).flatten.length = l.length * 3 := by
  rw [flatten_len 3 _ (by simp [Cn.cells]), List.length_map]
theorem CRow.at_ {w : World} {A : Option Addr} {l : List Cn} (h : CRow w A l) {k : Nat} (hk : k < l.length) :
    ∃ ad, A = some ad ∧ (∀ w', Ext w w' → w'.cell? (ad.add (k * 3)) = some (.int .i64 (cAt l k).at_.x)) ∧
      (∀ w', Ext w w' → w'.cell? ⟨(ad.add (k * 3)).block, (ad.add (k * 3)).off + 1, none⟩ = some (.int .i64 (cAt l k).at_.y)) ∧
      (∀ w', Ext w w' → w'.cell? ⟨(ad.add (k * 3)).block, (ad.add (k * 3)).off + 2, none⟩ = some (.int .i64 (cAt l k).d)) := by
  rw [cAt_at hk]
  obtain ⟨ad, ha, hc⟩ := Row.struct (size := 3) h (by simp [Cn.cells]) (k := k) (by simpa using hk) (by omega)
  refine ⟨ad, ha, fun w' he => ?_, fun w' he => ?_, fun w' he => ?_⟩
  · have := hc 0 (by omega) w' he
    rw [add_zero_] at this
    simpa [Cn.cells] using this
  · have := hc 1 (by omega) w' he
    rw [add_lit _ _ (by omega)] at this
    simpa [Cn.cells] using this
  · have := hc 2 (by omega) w' he
    rw [add_lit _ _ (by omega)] at this
    simpa [Cn.cells] using this

def Hg.cells (s : Hg) : List Value := [vint s.a.x, vint s.a.y, vint s.b.x, vint s.b.y, vint s.ang]
abbrev Hg.val (s : Hg) : Value := .agg #[vint s.a.x, vint s.a.y, vint s.b.x, vint s.b.y, vint s.ang]
def HRow (w : World) (A : Option Addr) (l : List Hg) : Prop := Row w A (l.map Hg.cells).flatten
theorem HRow.ext {w w' : World} {A : Option Addr} {l : List Hg} (h : HRow w A l) (he : Ext w w') : HRow w' A l := Row.ext h he
theorem HRow.nil (w : World) (A : Option Addr) : HRow w A [] := Row.nil w A
theorem Hg.cells_len (l : List Hg) : (l.map Hg.cells).flatten.length = l.length * 5 := by
  rw [flatten_len 5 _ (by simp [Hg.cells]), List.length_map]
theorem HRow.at_ {w : World} {A : Option Addr} {l : List Hg} (h : HRow w A l) {k : Nat} (hk : k < l.length) :
    ∃ ad, A = some ad ∧ (∀ w', Ext w w' → w'.cell? (ad.add (k * 5)) = some (.int .i64 (hgA l k).a.x)) ∧
      (∀ w', Ext w w' → w'.cell? ⟨(ad.add (k * 5)).block, (ad.add (k * 5)).off + 1, none⟩ = some (.int .i64 (hgA l k).a.y)) ∧
      (∀ w', Ext w w' → w'.cell? ⟨(ad.add (k * 5)).block, (ad.add (k * 5)).off + 2, none⟩ = some (.int .i64 (hgA l k).b.x)) ∧
      (∀ w', Ext w w' → w'.cell? ⟨(ad.add (k * 5)).block, (ad.add (k * 5)).off + 3, none⟩ = some (.int .i64 (hgA l k).b.y)) ∧
      (∀ w', Ext w w' → w'.cell? ⟨(ad.add (k * 5)).block, (ad.add (k * 5)).off + 4, none⟩ = some (.int .i64 (hgA l k).ang)) := by
  rw [hgA_at hk]
  obtain ⟨ad, ha, hc⟩ := Row.struct (size := 5) h (by simp [Hg.cells]) (k := k) (by simpa using hk) (by omega)
  refine ⟨ad, ha, fun w' he => ?_, fun w' he => ?_, fun w' he => ?_, fun w' he => ?_, fun w' he => ?_⟩
  · have := hc 0 (by omega) w' he
    rw [add_zero_] at this
    simpa [Hg.cells] using this
  · have := hc 1 (by omega) w' he
    rw [add_lit _ _ (by omega)] at this
    simpa [Hg.cells] using this
  · have := hc 2 (by omega) w' he
    rw [add_lit _ _ (by omega)] at this
    simpa [Hg.cells] using this
  · have := hc 3 (by omega) w' he
    rw [add_lit _ _ (by omega)] at this
    simpa [Hg.cells] using this
  · have := hc 4 (by omega) w' he
    rw [add_lit _ _ (by omega)] at this
    simpa [Hg.cells] using this

def Ps.cells (s : Ps) : List Value := [vint s.p, vint s.q, vint s.x, vint s.y, vint s.d]
abbrev Ps.val (s : Ps) : Value := .agg #[vint s.p, vint s.q, vint s.x, vint s.y, vint s.d]
def PRow (w : World) (A : Option Addr) (l : List Ps) : Prop := Row w A (l.map Ps.cells).flatten
theorem PRow.ext {w w' : World} {A : Option Addr} {l : List Ps} (h : PRow w A l) (he : Ext w w') : PRow w' A l := Row.ext h he
theorem PRow.nil (w : World) (A : Option Addr) : PRow w A [] := Row.nil w A
theorem Ps.cells_len (l : List Ps) : (l.map Ps.cells).flatten.length = l.length * 5 := by
  rw [flatten_len 5 _ (by simp [Ps.cells]), List.length_map]
theorem PRow.at_ {w : World} {A : Option Addr} {l : List Ps} (h : PRow w A l) {k : Nat} (hk : k < l.length) :
    ∃ ad, A = some ad ∧ (∀ w', Ext w w' → w'.cell? (ad.add (k * 5)) = some (.int .i64 (psA l k).p)) ∧
      (∀ w', Ext w w' → w'.cell? ⟨(ad.add (k * 5)).block, (ad.add (k * 5)).off + 1, none⟩ = some (.int .i64 (psA l k).q)) ∧
      (∀ w', Ext w w' → w'.cell? ⟨(ad.add (k * 5)).block, (ad.add (k * 5)).off + 2, none⟩ = some (.int .i64 (psA l k).x)) ∧
      (∀ w', Ext w w' → w'.cell? ⟨(ad.add (k * 5)).block, (ad.add (k * 5)).off + 3, none⟩ = some (.int .i64 (psA l k).y)) ∧
      (∀ w', Ext w w' → w'.cell? ⟨(ad.add (k * 5)).block, (ad.add (k * 5)).off + 4, none⟩ = some (.int .i64 (psA l k).d)) := by
  rw [psA_at hk]
  obtain ⟨ad, ha, hc⟩ := Row.struct (size := 5) h (by simp [Ps.cells]) (k := k) (by simpa using hk) (by omega)
  refine ⟨ad, ha, fun w' he => ?_, fun w' he => ?_, fun w' he => ?_, fun w' he => ?_, fun w' he => ?_⟩
  · have := hc 0 (by omega) w' he
    rw [add_zero_] at this
    simpa [Ps.cells] using this
  · have := hc 1 (by omega) w' he
    rw [add_lit _ _ (by omega)] at this
    simpa [Ps.cells] using this
  · have := hc 2 (by omega) w' he
    rw [add_lit _ _ (by omega)] at this
    simpa [Ps.cells] using this
  · have := hc 3 (by omega) w' he
    rw [add_lit _ _ (by omega)] at this
    simpa [Ps.cells] using this
  · have := hc 4 (by omega) w' he
    rw [add_lit _ _ (by omega)] at this
    simpa [Ps.cells] using this

/-- Panels: slices of places. -/
def PnRow (w : World) (A : Option Addr) (ps : List (List Sp)) : Prop := ∀ k (hk : k < ps.length), ∃ ad B c, A = some ad ∧ (∀ w', Ext w w' → w'.cell? (ad.add k) = some (.slice B ps[k].length c)) ∧ SRow w B ps[k]
theorem PnRow.ext {w w' : World} {A : Option Addr} {ps : List (List Sp)} (h : PnRow w A ps) (he : Ext w w') : PnRow w' A ps := fun k hk => by
  obtain ⟨ad, B, c, h1, h2, h3⟩ := h k hk
  exact ⟨ad, B, c, h1, fun w2 h => h2 w2 (he.trans h), h3.ext he⟩
theorem PnRow.nil (w : World) (A : Option Addr) : PnRow w A [] := fun k hk => absurd hk (by simp)
end Go.Proofs.Yteilglljigjefaa

/- Blocks of the call's own, known whole; results that are a variable's cells. -/
namespace Go.Proofs.Yteilglljigjefaa
open Go.RowKit

theorem cell_heap {w : World} {b : Nat} {cs : Array Value} {t : TypeId} (h : w.heap[b]? = some (.cells cs t)) (j : Nat) : w.cell? ⟨b, j, none⟩ = cs[j]? := by
  simp [World.cell?, h]
theorem heap_alloc_new (w : World) (o : Obj) : (w.alloc o).heap[w.heap.size]? = some o := by
  simp only [World.alloc]; exact Array.getElem?_push_size
theorem add_zero' (b k : Nat) : (⟨b, 0, none⟩ : Addr).add k = ⟨b, k, none⟩ := by unfold Addr.add; split <;> simp_all
theorem cell_same' {W : World} {p : Addr} {x : Value} (u : Value) (h : W.cell? p = some u) : (W.setCell p x).cell? p = some x := World.cell?_setCell_same _ _ _ h
theorem cell_far' {W : World} {g j k : Nat} {x : Value} (h : j ≠ k) : (W.setCell ⟨g, j, none⟩ x).cell? ⟨g, k, none⟩ = W.cell? ⟨g, k, none⟩ := World.cell?_setCell_other _ _ _ _ (fun e => by injection e with _ e2 _; exact h e2)
theorem cell_off' {W : World} {g h j k : Nat} {x : Value} (hne : g ≠ h) : (W.setCell ⟨g, j, none⟩ x).cell? ⟨h, k, none⟩ = W.cell? ⟨h, k, none⟩ := World.cell?_setCell_other _ _ _ _ (fun e => by injection e with e1 _ _; exact hne e1)
theorem cells_last {w : World} {cs : Array Value} {t : TypeId} {j : Nat} {v : Value} {g : Nat} (hg : w.heap.size = g) (hv : cs[j]? = some v) : (w.alloc (.cells cs t)).cell? ⟨g, j, none⟩ = some v := by
  subst hg
  rw [cell_heap (heap_alloc_new w _), hv]

/-- Block g holds these cells, and may be written. -/
structure Blk (W : World) (g : Nat) (vs : List Value) : Prop where
  c : ∀ j v, vs[j]? = some v → W.cell? ⟨g, j, none⟩ = some v
  f : ∀ j, W.frozen? ⟨g, j, none⟩ = false
  lt : g < W.heap.size
section
variable {W W' : World} {g : Nat} {vs : List Value}
theorem Blk.ext (h : Blk W g vs) (he : Ext W W') : Blk W' g vs :=
  ⟨fun j v hv => he.cell (h.c j v hv), fun j => (he.frozen h.lt).trans (h.f j), Nat.lt_of_lt_of_le h.lt he.le⟩
theorem Blk.new (cs : Array Value) (t : TypeId) : Blk (W.alloc (.cells cs t)) W.heap.size cs.toList :=
  ⟨fun j v hv => cells_last rfl (by simpa using hv), fun j => by simp only [World.frozen?, heap_alloc_new]; simp, by simp⟩
theorem Blk.new' {cs : Array Value} {t : TypeId} {n : Nat} (hn : W.heap.size = n) : Blk (W.alloc (.cells cs t)) n cs.toList := by subst hn; exact Blk.new cs t
theorem Blk.set (h : Blk W g vs) {j : Nat} (hj : j < vs.length) (x : Value) : Blk (W.setCell ⟨g, j, none⟩ x) g (vs.set j x) := by
  refine ⟨fun k v hv => ?_, fun k => by rw [World.frozen?_setCell]; exact h.f k, by simpa using h.lt⟩
  by_cases e : j = k
  · subst e
    rw [List.getElem?_set_self hj] at hv
    injection hv with hv
    subst hv
    exact cell_same' vs[j] (h.c j _ (List.getElem?_eq_getElem hj))
  · rw [List.getElem?_set_ne e] at hv
    rw [cell_far' e]
    exact h.c k v hv
theorem Blk.other (h : Blk W g vs) {b k : Nat} (hb : b ≠ g) (x : Value) : Blk (W.setCell ⟨b, k, none⟩ x) g vs :=
  ⟨fun j v hv => by rw [cell_off' hb]; exact h.c j v hv, fun j => by rw [World.frozen?_setCell]; exact h.f j, by simpa using h.lt⟩
/-- The cell j, for every world that holds what W holds. -/
theorem Blk.at_ (h : Blk W g vs) (j : Nat) {v : Value} (hv : vs[j]? = some v) : ∀ w', Ext W w' → w'.cell? ⟨g, j, none⟩ = some v := fun _ he => he.cell (h.c j v hv)
theorem Blk.free (h : Blk W g vs) (j : Nat) : ∀ w', Ext W w' → w'.frozen? ⟨g, j, none⟩ = false := fun _ he => (he.frozen h.lt).trans (h.f j)
end

theorem results_spot {fn : Func} {t : Tmp} (h : fn.results = #[.cell t 27]) (tmps : Array Value) (w : World) {g : Nat} {u0 u1 : Value} (h8 : tmps.getD t undef = .pointer (some ⟨g, 0, none⟩)) (hb : Blk w g [u0, u1]) :
    (results fn tmps).run Try.prog w = .ok (.agg #[u0, u1]) w := by
  rw [Array.getD_eq_getD_getElem?] at h8
  have c0 := hb.c 0 _ rfl
  have c1 := hb.c 1 _ rfl
  simp [results, h, loadVar, h8, c0, c1, loadCells, loadCellsFrom, asAddr, Addr.add_lit, Result.andThen, go_sem]

theorem results_pose {fn : Func} {t : Tmp} (h : fn.results = #[.cell t 82]) (tmps : Array Value) (w : World) {g : Nat} {u0 u1 u2 u3 u4 : Value} (h8 : tmps.getD t undef = .pointer (some ⟨g, 0, none⟩)) (hb : Blk w g [u0, u1, u2, u3, u4]) :
    (results fn tmps).run Try.prog w = .ok (.agg #[u0, u1, u2, u3, u4]) w := by
  rw [Array.getD_eq_getD_getElem?] at h8
  have c0 := hb.c 0 _ rfl
  have c1 := hb.c 1 _ rfl
  have c2 := hb.c 2 _ rfl
  have c3 := hb.c 3 _ rfl
  have c4 := hb.c 4 _ rfl
  simp [results, h, loadVar, h8, c0, c1, c2, c3, c4, loadCells, loadCellsFrom, asAddr, Addr.add_lit, Result.andThen, go_sem]

theorem results_hinge {fn : Func} {t : Tmp} (h : fn.results = #[.cell t 85]) (tmps : Array Value) (w : World) {g : Nat} {u0 u1 u2 u3 u4 : Value} (h8 : tmps.getD t undef = .pointer (some ⟨g, 0, none⟩)) (hb : Blk w g [u0, u1, u2, u3, u4]) :
    (results fn tmps).run Try.prog w = .ok (.agg #[u0, u1, u2, u3, u4]) w := by
  rw [Array.getD_eq_getD_getElem?] at h8
  have c0 := hb.c 0 _ rfl
  have c1 := hb.c 1 _ rfl
  have c2 := hb.c 2 _ rfl
  have c3 := hb.c 3 _ rfl
  have c4 := hb.c 4 _ rfl
  simp [results, h, loadVar, h8, c0, c1, c2, c3, c4, loadCells, loadCellsFrom, asAddr, Addr.add_lit, Result.andThen, go_sem]

theorem results_link {fn : Func} {t : Tmp} (h : fn.results = #[.cell t 25]) (tmps : Array Value) (w : World) {g : Nat} {u0 u1 : Value} (h8 : tmps.getD t undef = .pointer (some ⟨g, 0, none⟩)) (hb : Blk w g [u0, u1]) :
    (results fn tmps).run Try.prog w = .ok (.agg #[u0, u1]) w := by
  rw [Array.getD_eq_getD_getElem?] at h8
  have c0 := hb.c 0 _ rfl
  have c1 := hb.c 1 _ rfl
  simp [results, h, loadVar, h8, c0, c1, loadCells, loadCellsFrom, asAddr, Addr.add_lit, Result.andThen, go_sem]

theorem results_apart {fn : Func} {t : Tmp} (h : fn.results = #[.cell t 67]) (tmps : Array Value) (w : World) {g : Nat} {u0 u1 u2 u3 u4 u5 : Value} (h8 : tmps.getD t undef = .pointer (some ⟨g, 0, none⟩)) (hb : Blk w g [u0, u1, u2, u3, u4, u5]) :
    (results fn tmps).run Try.prog w = .ok (.agg #[u0, u1, u2, u3, u4, u5]) w := by
  rw [Array.getD_eq_getD_getElem?] at h8
  have c0 := hb.c 0 _ rfl
  have c1 := hb.c 1 _ rfl
  have c2 := hb.c 2 _ rfl
  have c3 := hb.c 3 _ rfl
  have c4 := hb.c 4 _ rfl
  have c5 := hb.c 5 _ rfl
  simp [results, h, loadVar, h8, c0, c1, c2, c3, c4, c5, loadCells, loadCellsFrom, asAddr, Addr.add_lit, Result.andThen, go_sem]

theorem results_turn {fn : Func} {t : Tmp} (h : fn.results = #[.cell t 92]) (tmps : Array Value) (w : World) {g : Nat} {u0 u1 u2 : Value} (h8 : tmps.getD t undef = .pointer (some ⟨g, 0, none⟩)) (hb : Blk w g [u0, u1, u2]) :
    (results fn tmps).run Try.prog w = .ok (.agg #[u0, u1, u2]) w := by
  rw [Array.getD_eq_getD_getElem?] at h8
  have c0 := hb.c 0 _ rfl
  have c1 := hb.c 1 _ rfl
  have c2 := hb.c 2 _ rfl
  simp [results, h, loadVar, h8, c0, c1, c2, loadCells, loadCellsFrom, asAddr, Addr.add_lit, Result.andThen, go_sem]
end Go.Proofs.Yteilglljigjefaa
