/- Pistons, seventh text: plain laws on periods and cycles. No walk. -/
import Derived.Test.YtbclbcldplmppaaMw01
namespace Go.Proofs.Ytbclbcldplmppaa

def runS (lift : List Int) (op st x : Int) : Nat → Int
  | 0 => x
  | t + 1 => tickS lift op st (runS lift op st x t) (t + 1)
theorem run_add (lift : List Int) (op st : Int) (T : Nat) (h : T % lift.length = 0) : ∀ t, placeS lift op st (T + t) = runS lift op st (placeS lift op st T) t
  | 0 => rfl
  | t + 1 => by
    show tickS lift op st (placeS lift op st (T + t)) (T + t + 1) = tickS lift op st (runS lift op st (placeS lift op st T) t) (t + 1)
    rw [run_add lift op st T h t]
    unfold tickS
    have : (T + t + 1 - 1) % lift.length = (t + 1 - 1) % lift.length := by
      rw [show T + t + 1 - 1 = T + t by omega, show t + 1 - 1 = t by omega, Nat.add_mod, h, Nat.zero_add, Nat.mod_mod]
    rw [this]
theorem run_mono (lift : List Int) (op st x y : Int) (h : x ≤ y) : ∀ t, runS lift op st x t ≤ runS lift op st y t
  | 0 => h
  | t + 1 => by
    have := run_mono lift op st x y h t
    show tickS _ _ _ _ _ ≤ tickS _ _ _ _ _
    unfold tickS
    split <;> omega

section
variable {lift : List Int} {op st : Int} {n : Nat}
theorem dvd_mul (hd : n % lift.length = 0) (k : Nat) : (k * n) % lift.length = 0 := by rw [Nat.mul_mod, hd]; simp
theorem per_next (hd : n % lift.length = 0) (k : Nat) : placeS lift op st (k * n + n) = runS lift op st (placeS lift op st (k * n)) n := run_add lift op st (k * n) (dvd_mul hd k) n
theorem per_mono (hd : n % lift.length = 0) (hs : 1 ≤ st) : ∀ k, placeS lift op st (k * n) ≤ placeS lift op st (k * n + n)
  | 0 => by
    rw [Nat.zero_mul]
    exact (place_bd lift op st hs (0 + n)).1
  | k + 1 => by
    have ih := per_mono hd hs k
    rw [per_next hd (k + 1), show (k + 1) * n = k * n + n by rw [Nat.add_mul]; omega]
    conv => lhs; rw [per_next hd k]
    exact run_mono _ _ _ _ _ ih n
theorem per_stay (hd : n % lift.length = 0) (k : Nat) (h : placeS lift op st (k * n) = placeS lift op st (k * n + n)) : placeS lift op st ((k + 1) * n) = placeS lift op st ((k + 1) * n + n) := by
  rw [per_next hd (k + 1), show (k + 1) * n = k * n + n by rw [Nat.add_mul]; omega, ← h]
  rw [← per_next hd k]
  exact h
theorem per_stays (hd : n % lift.length = 0) (k j : Nat) (hj : k ≤ j) (h : placeS lift op st (k * n) = placeS lift op st (k * n + n)) : placeS lift op st (j * n) = placeS lift op st (j * n + n) := by
  induction j with
  | zero => have : k = 0 := by omega
            subst this; exact h
  | succ j ih =>
    by_cases e : k = j + 1
    · subst e; exact h
    · exact per_stay hd j (ih (by omega))
theorem per_climb (hd : n % lift.length = 0) (hs : 1 ≤ st) : ∀ k : Nat, (∀ j, j < k → placeS lift op st (j * n) ≠ placeS lift op st (j * n + n)) → (k : Int) ≤ placeS lift op st (k * n)
  | 0, _ => by rw [Nat.zero_mul]; simp [placeS]
  | k + 1, h => by
    have ih := per_climb hd hs k (fun j hj => h j (by omega))
    have h1 := h k (by omega)
    have h2 := per_mono (op := op) hd hs k
    rw [show (k + 1) * n = k * n + n by rw [Nat.add_mul]; omega]
    omega
theorem per_exists (hd : n % lift.length = 0) (hs : 1 ≤ st) (hs2 : st ≤ 20) : placeS lift op st (20 * n) = placeS lift op st (20 * n + n) := by
  rcases Classical.em (∃ j, j < 21 ∧ placeS lift op st (j * n) = placeS lift op st (j * n + n)) with ⟨j, hj, h⟩ | hno
  · exact per_stays hd j 20 (by omega) h
  · have := per_climb (op := op) hd hs 21 (fun j hj h => hno ⟨j, hj, h⟩)
    have := (place_bd lift op st hs (21 * n)).2
    omega
end

/-- The least number from k on with a property; the search ends behind f steps. -/
def firstFrom (P : Nat → Bool) : Nat → Nat → Nat
  | 0, k => k
  | f + 1, k => if P k = true then k else firstFrom P f (k + 1)
theorem firstFrom_spec (P : Nat → Bool) : ∀ f k, P (k + f) = true → P (firstFrom P f k) = true ∧ k ≤ firstFrom P f k ∧ firstFrom P f k ≤ k + f ∧ ∀ j, k ≤ j → j < firstFrom P f k → P j = false
  | 0, k, h => ⟨h, Nat.le_refl _, Nat.le_refl _, fun j h1 h2 => by simp [firstFrom] at h2; omega⟩
  | f + 1, k, h => by
    unfold firstFrom
    split
    · rename_i hk
      exact ⟨hk, Nat.le_refl _, by omega, fun j h1 h2 => by omega⟩
    · rename_i hk
      obtain ⟨h1, h2, h3, h4⟩ := firstFrom_spec P f (k + 1) (by rw [show k + 1 + f = k + (f + 1) by omega]; exact h)
      refine ⟨h1, by omega, by omega, fun j hj1 hj2 => ?_⟩
      by_cases e : j = k
      · subst e; simpa using hk
      · exact h4 j (by omega) hj2

def Pis.at (p : Pis) (t : Nat) : Int := placeS p.lift p.op p.st t
/-- At the k-th period nothing changes. -/
def Pis.calm (p : Pis) (n k : Nat) : Bool := decide (p.at (k * n) = p.at (k * n + n))
def Pis.first (p : Pis) (n : Nat) : Nat := firstFrom (p.calm n) 20 0

theorem Pis.okP {p : Pis} (h : p.ok = true) : vpP p.lift p.op p.st := by simpa [Pis.ok, vpB] using h
theorem Pis.first_spec {p : Pis} {n : Nat} (h : p.ok = true) (hd : n % p.lift.length = 0) : p.calm n (p.first n) = true ∧ p.first n ≤ 20 ∧ ∀ j, j < p.first n → p.calm n j = false := by
  have hv := p.okP h
  have := firstFrom_spec (p.calm n) 20 0 (by simp only [Pis.calm, Pis.at]; exact decide_eq_true (per_exists hd hv.2.2.2.2.2.1 hv.2.2.2.2.2.2))
  exact ⟨this.1, by have := this.2.2.1; unfold Pis.first; omega, fun j hj => this.2.2.2 j (by omega) hj⟩
theorem Pis.calm_stays {p : Pis} {n k j : Nat} (hd : n % p.lift.length = 0) (hj : k ≤ j) (h : p.calm n k = true) : p.calm n j = true := by
  unfold Pis.calm Pis.at at *
  exact decide_eq_true (per_stays hd k j hj (of_decide_eq_true h))

/-- The greatest of the first i starts. -/
def stR (ps : List Pis) (n : Nat) : Nat → Nat
  | 0 => 0
  | i + 1 => max (stR ps n i) (match ps[i]? with | some p => p.first n * n | none => 0)

def allCalm (ps : List Pis) (n k : Nat) : Bool := ps.all fun p => p.calm n k
def kAll (ps : List Pis) (n : Nat) : Nat := firstFrom (allCalm ps n) 20 0

section
variable {ps : List Pis} {n : Nat}
theorem kAll_spec (hok : ∀ p ∈ ps, p.ok = true) (hd : ∀ p ∈ ps, n % p.lift.length = 0) : allCalm ps n (kAll ps n) = true ∧ kAll ps n ≤ 20 ∧ ∀ j, j < kAll ps n → allCalm ps n j = false := by
  have := firstFrom_spec (allCalm ps n) 20 0 (by
    unfold allCalm
    rw [List.all_eq_true]
    intro p hp
    obtain ⟨h1, h2, _⟩ := Pis.first_spec (hok p hp) (hd p hp)
    exact Pis.calm_stays (hd p hp) (by omega) h1)
  exact ⟨this.1, by have := this.2.2.1; unfold kAll; omega, fun j hj => this.2.2.2 j (by omega) hj⟩
theorem first_le (hok : ∀ p ∈ ps, p.ok = true) (hd : ∀ p ∈ ps, n % p.lift.length = 0) (p : Pis) (hp : p ∈ ps) : p.first n ≤ kAll ps n := by
  have h1 := (kAll_spec hok hd).1
  unfold allCalm at h1
  rw [List.all_eq_true] at h1
  have h2 := h1 p hp
  rcases Nat.lt_or_ge (kAll ps n) (p.first n) with h | h
  · rw [(Pis.first_spec (hok p hp) (hd p hp)).2.2 _ h] at h2; cases h2
  · exact h
theorem stR_le (hok : ∀ p ∈ ps, p.ok = true) (hd : ∀ p ∈ ps, n % p.lift.length = 0) (i : Nat) : stR ps n i ≤ kAll ps n * n := by
  induction i with
  | zero => simp [stR]
  | succ i ih =>
    unfold stR
    cases hp : ps[i]? with
    | none => simp; exact ih
    | some p =>
      have := Nat.mul_le_mul_right n (first_le hok hd p (List.mem_of_getElem? hp))
      simp only
      omega
theorem stR_ge (i j : Nat) (hi : i < j) (p : Pis) (hp : ps[i]? = some p) : p.first n * n ≤ stR ps n j := by
  induction j with
  | zero => omega
  | succ j ih =>
    unfold stR
    by_cases e : i = j
    · subst e; rw [hp]; simp only; omega
    · have := ih (by omega); omega
theorem kAll_eq (hok : ∀ p ∈ ps, p.ok = true) (hd : ∀ p ∈ ps, n % p.lift.length = 0) : kAll ps n * n = stR ps n ps.length := by
  apply Nat.le_antisymm _ (stR_le hok hd _)
  rcases Nat.eq_zero_or_pos (kAll ps n) with h0 | hpos
  · rw [h0]; simp
  · have h := (kAll_spec hok hd).2.2 (kAll ps n - 1) (by omega)
    unfold allCalm at h
    rw [List.all_eq_false] at h
    obtain ⟨p, hp, hc⟩ := h
    obtain ⟨h1, _, h3⟩ := Pis.first_spec (hok p hp) (hd p hp)
    have hle : kAll ps n ≤ p.first n := by
      rcases Nat.lt_or_ge (p.first n) (kAll ps n) with h | h
      · exact absurd (Pis.calm_stays (hd p hp) (show p.first n ≤ kAll ps n - 1 by omega) h1) hc
      · exact h
    obtain ⟨i, hi, rfl⟩ := List.getElem_of_mem hp
    have := stR_ge (n := n) i ps.length hi _ (List.getElem?_eq_getElem hi)
    have := Nat.mul_le_mul_right n hle
    omega
end

/-! ### The least common multiple -/

def lcmTo (ps : List Pis) : Nat → Nat
  | 0 => 1
  | i + 1 => match ps[i]? with | some p => Nat.lcm (lcmTo ps i) p.lift.length | none => lcmTo ps i
theorem lcmTo_dvd (ps : List Pis) (j : Nat) : ∀ i, lcmTo ps i ∣ j ↔ ∀ k, k < i → ∀ p, ps[k]? = some p → p.lift.length ∣ j
  | 0 => by simp [lcmTo]
  | i + 1 => by
    unfold lcmTo
    cases hp : ps[i]? with
    | none =>
      simp only
      rw [lcmTo_dvd ps j i]
      exact ⟨fun h k hk p hk' => by
        by_cases e : k = i
        · subst e; rw [hp] at hk'; cases hk'
        · exact h k (by omega) p hk', fun h k hk p hk' => h k (by omega) p hk'⟩
    | some q =>
      simp only
      constructor
      · intro h k hk p hk'
        by_cases e : k = i
        · subst e; rw [hp] at hk'; injection hk' with hk'; subst hk'; exact Nat.dvd_trans (Nat.dvd_lcm_right _ _) h
        · exact (lcmTo_dvd ps j i).1 (Nat.dvd_trans (Nat.dvd_lcm_left _ _) h) k (by omega) p hk'
      · intro h
        exact Nat.lcm_dvd ((lcmTo_dvd ps j i).2 fun k hk p hk' => h k (by omega) p hk') (h i (by omega) q hp)
def lcmS (ps : List Pis) : Nat := lcmTo ps ps.length
theorem lcmS_dvd (ps : List Pis) (j : Nat) : lcmS ps ∣ j ↔ ∀ p ∈ ps, j % p.lift.length = 0 := by
  unfold lcmS
  rw [lcmTo_dvd]
  constructor
  · intro h p hp
    obtain ⟨i, hi, rfl⟩ := List.getElem_of_mem hp
    exact Nat.mod_eq_zero_of_dvd (h i hi _ (List.getElem?_eq_getElem hi))
  · intro h k _ p hp
    exact Nat.dvd_of_mod_eq_zero (h p (List.mem_of_getElem? hp))
theorem lcmTo_pos (ps : List Pis) (h : ∀ p ∈ ps, 0 < p.lift.length) : ∀ i, 0 < lcmTo ps i
  | 0 => by simp [lcmTo]
  | i + 1 => by
    unfold lcmTo
    cases hp : ps[i]? with
    | none => exact lcmTo_pos ps h i
    | some q => exact Nat.lcm_pos (lcmTo_pos ps h i) (h q (List.mem_of_getElem? hp))
theorem lcmTo_le (ps : List Pis) (h : ∀ p ∈ ps, 0 < p.lift.length) (h2 : ∀ p ∈ ps, p.lift.length ≤ 24) : ∀ i, lcmTo ps i ≤ 24 ^ i
  | 0 => by simp [lcmTo]
  | i + 1 => by
    have ih := lcmTo_le ps h h2 i
    unfold lcmTo
    rw [Nat.pow_succ]
    cases hp : ps[i]? with
    | none => simp only; omega
    | some q =>
      simp only
      have h3 := h2 q (List.mem_of_getElem? hp)
      exact Nat.le_trans (Nat.le_of_dvd (Nat.mul_pos (lcmTo_pos ps h i) (h q (List.mem_of_getElem? hp))) (Nat.lcm_dvd_mul _ _)) (Nat.mul_le_mul ih h3)
theorem fits_iff (ps : List Pis) (j : Nat) (h : j ≤ 5000) : fitsB ps j = true ↔ lcmS ps ∣ j := by
  rw [lcmS_dvd]
  simp [fitsB, show ¬ 5000 < j by omega]
theorem per_lcm (ps : List Pis) (h : ∀ p ∈ ps, 0 < p.lift.length) : (5000 < perS ps ↔ 5000 < lcmS ps) ∧ (lcmS ps ≤ 5000 → perS ps = lcmS ps) := by
  obtain ⟨h1, h2, h3, h4⟩ := perS_spec ps
  have hpos : 0 < lcmS ps := lcmTo_pos ps h _
  have key : lcmS ps ≤ 5000 → perS ps = lcmS ps := fun hl => by
    have hf := (fits_iff ps (lcmS ps) hl).2 (Nat.dvd_refl _)
    have hle : perS ps ≤ lcmS ps := by
      rcases Nat.lt_or_ge (lcmS ps) (perS ps) with hh | hh
      · rw [h4 _ hpos hh] at hf; cases hf
      · exact hh
    exact Nat.le_antisymm hle (Nat.le_of_dvd h2 ((fits_iff ps _ (by omega)).1 h1))
  refine ⟨⟨fun hp => ?_, fun hl => ?_⟩, key⟩
  · rcases Nat.lt_or_ge 5000 (lcmS ps) with hh | hh
    · exact hh
    · have := key hh; omega
  · rcases Nat.lt_or_ge 5000 (perS ps) with hh | hh
    · exact hh
    · have := Nat.le_of_dvd h2 ((fits_iff ps _ hh).1 h1); omega
end Go.Proofs.Ytbclbcldplmppaa

/- Pistons, eighth text: the reference's Cycle. -/
namespace Go.Proofs.Ytbclbcldplmppaa
open Go.RowKit

theorem retn3 {a b c a' b' c' : Int} (h1 : a = a') (h2 : b = b') (h3 : c = c') : Ending.returned (.tuple #[.int .i64 a, .int .i64 b, .int .i64 c]) = .returned (.tuple #[.int .i64 a', .int .i64 b', .int .i64 c']) := by rw [h1, h2, h3]

theorem stR_succ (ps : List Pis) (n i : Nat) (hi : i < ps.length) : stR ps n (i + 1) = max (stR ps n i) (ps[i].first n * n) := by
  conv => lhs; unfold stR
  rw [List.getElem?_eq_getElem hi]

set_option maxHeartbeats 400000 in
theorem cycle_ref_many (A : Option Addr) (c n : Nat) (w : World) (hn : ¬ (1 ≤ n ∧ n ≤ 6)) :
    Calls Try.prog 20 #[.slice A n c] w fun e w' => e = .returned (.tuple #[.int .i64 0, .int .i64 0, .int .i64 4]) ∧ Ext w w' := by
  have hw : withinB (n : Int) 1 6 = false := withinB_false.2 fun h => hn (by omega)
  clear hn
  go_enter Try.func20, Try.ntmps20
  go_wp2_with (go_at_call 54; refine (within_any _ _ _ _).mono ?_; rintro e w' ⟨rfl, rfl⟩)
  go_ret3
  exact ⟨rfl, Ext.refl _⟩

/-- Some piston is not valid. -/
theorem cycle_ref_bad (A : Option Addr) (c : Nat) (ps : List Pis) (w : World) (hA : PRow w A ps) (h1 : 1 ≤ ps.length) (h6 : ps.length ≤ 6) (hbad : ¬ ∀ p ∈ ps, p.ok = true) :
    Calls Try.prog 20 #[.slice A ps.length c] w fun e w' => e = .returned (.tuple #[.int .i64 0, .int .i64 0, .int .i64 2]) ∧ Ext w w' := by
  have hr := fun k (hk : k < ps.length) => hA.at_ hk
  have cv := fun k (hk : k < ps.length) (w' : World) (he : Ext w w') => valid_piston ps[k].a ps[k].c ps[k].lift ps[k].op ps[k].st w' ((hA.lifts _ (List.getElem_mem hk)).ext he) (hA.small _ (List.getElem_mem hk))
  have hb : ¬ ∀ k (hk : k < ps.length), vpB ps[k].lift ps[k].op ps[k].st = true := fun h => hbad fun p hp => by
    obtain ⟨i, hi, rfl⟩ := List.getElem_of_mem hp
    exact h i hi
  have Hr := Lib.hid hr
  have Cv := Lib.hid cv
  have Hb := Lib.hid hb
  have hw : withinB (ps.length : Int) 1 6 = true := withinB_true.2 (by omega)
  clear hr cv hbad hb hA
  obtain ⟨m, hm⟩ : ∃ m, m = ps.length := ⟨_, rfl⟩
  rw [← hm] at h1 h6 hw ⊢
  have Hm := Lib.hid hm
  clear hm
  go_enter Try.func20, Try.ntmps20
  go_wp2_with (go_at_call 54; refine (within_any _ _ _ _).mono ?_; rintro e w' ⟨rfl, rfl⟩)
  go_loopw [5] (fun i wr => ∃ k : Nat, k ≤ m ∧ i = .int .i64 k ∧ Ext w wr ∧ ∀ j (hj : j < ps.length), j < k → vpB ps[j].lift ps[j].op ps[j].st = true) (fun i _ => m - (intOf i).toNat)
  case atStart => exact ⟨0, by omega, rfl, Ext.refl _, fun j _ hj => by omega⟩
  case round =>
    obtain ⟨k, hk, rfl, hex, hall⟩ := hrel
    have Hall := Lib.hid hall
    clear hall
    by_cases hlt : k < m
    · have hkp : k < ps.length := by rw [← Hm.out]; exact hlt
      obtain ⟨ad, rfl, q0, q1, q2, _⟩ := Hr.out k hkp
      have q0 := q0 wr hex
      have q1 := q1 wr hex
      have q2 := q2 wr hex
      have cv := Cv.out k hkp wr hex
      have hstep : vpB ps[k].lift ps[k].op ps[k].st = true → ∀ j (hj : j < ps.length), j < k + 1 → vpB ps[j].lift ps[j].op ps[j].st = true := fun h j hj hjk => by
        by_cases e : j = k
        · subst e; exact h
        · exact Hall.out j hj (by omega)
      have Cv' := Lib.hid cv
      have Hst := Lib.hid hstep
      clear hstep cv
      cases hv : vpB ps[k].lift ps[k].op ps[k].st
      all_goals
        rw [hv] at Cv'
        generalize ps[k].lift.length = q at *
        generalize ps[k].a = a at *
        generalize ps[k].c = c0 at *
        have Hv := Lib.hid hv
        clear hv
      · go_wp2_with (go_at_call 53; refine Cv'.out.mono ?_; rintro e w' ⟨rfl, hx⟩)
        go_ret3
        exact ⟨rfl, hex.trans hx⟩
      · go_wp2_with (go_at_call 53; refine Cv'.out.mono ?_; rintro e w' ⟨rfl, hx⟩)
        go_roundw
        case rel => exact ⟨k + 1, by omega, by go_num, hex.trans hx, Hst.out Hv.out⟩
        case measure => simp [intOf]; omega
    · exact absurd (fun j hj => Hall.out j hj (by rw [← Hm.out] at hj; omega)) Hb.out

def cycS (ps : List Pis) : Nat × Nat × Nat := if 5000 < perS ps then (0, 0, 2) else (stR ps (perS ps) ps.length, perS ps, 0)

theorem getI_placesL {lift : List Int} {op st : Int} {w1 w : World} {g m c n i : Nat} (h : Own w1 w 3 1 (.slice (some ⟨g, 0, none⟩) m c) n ((placesL lift op st n).map vint)) (hi : i < n) : w.cell? ⟨g, i, none⟩ = some (.int .i64 (placeS lift op st i)) := by
  rw [h.cell (by simp [placesL_length]; exact hi)]
  simp [placesL, hi]

set_option maxHeartbeats 1600000 in
theorem cycle_ref_good (A : Option Addr) (c : Nat) (ps : List Pis) (w : World) (hA : PRow w A ps) (h1 : 1 ≤ ps.length) (h6 : ps.length ≤ 6) (hok : ∀ p ∈ ps, p.ok = true) :
    Calls Try.prog 20 #[.slice A ps.length c] w fun e w' => e = .returned (.tuple #[.int .i64 ((cycS ps).1 : Nat), .int .i64 ((cycS ps).2.1 : Nat), .int .i64 ((cycS ps).2.2 : Nat)]) ∧ Ext w w' := by
  have hpos : ∀ p ∈ ps, 0 < p.lift.length := fun p hp => by have := (p.okP (hok p hp)).1; omega
  have hr := fun k (hk : k < ps.length) => hA.at_ hk
  have cv := fun k (hk : k < ps.length) (w' : World) (he : Ext w w') => valid_piston ps[k].a ps[k].c ps[k].lift ps[k].op ps[k].st w' ((hA.lifts _ (List.getElem_mem hk)).ext he) (hA.small _ (List.getElem_mem hk))
  have hb : ∀ k (hk : k < ps.length), vpB ps[k].lift ps[k].op ps[k].st = true := fun k hk => hok _ (List.getElem_mem hk)
  have cp := fun (w' : World) (he : Ext w w') => period_any A c ps w' (hA.ext he) (by omega) hpos
  have cm := fun k (hk : k < ps.length) (ticks : Nat) (ht : ticks ≤ 200000) (w' : World) (he : Ext w w') => moved_any ps[k].a ps[k].c ps[k].lift ps[k].op ps[k].st ticks w' ((hA.lifts _ (List.getElem_mem hk)).ext he) (hA.small _ (List.getElem_mem hk)) (hb k hk) ht
  have hfit := perS_spec ps
  have hfirst : perS ps ≤ 5000 → ∀ k (hk : k < ps.length), ps[k].calm (perS ps) (ps[k].first (perS ps)) = true ∧ ps[k].first (perS ps) ≤ 20 ∧ ∀ j, j < ps[k].first (perS ps) → ps[k].calm (perS ps) j = false := fun hp k hk => by
    have hd := (lcmS_dvd ps (perS ps)).1 ((fits_iff ps _ hp).1 hfit.1)
    exact Pis.first_spec (hok _ (List.getElem_mem hk)) (hd _ (List.getElem_mem hk))
  have hst := fun i (hi : i < ps.length) => stR_succ ps (perS ps) i hi
  have hsl : perS ps ≤ 5000 → ∀ i, stR ps (perS ps) i ≤ 20 * perS ps := fun hp i => by
    have hd := (lcmS_dvd ps (perS ps)).1 ((fits_iff ps _ hp).1 hfit.1)
    have h1 := stR_le hok hd i
    have h2 := Nat.mul_le_mul_right (perS ps) (kAll_spec hok hd).2.1
    omega
  have hfin : cycS ps = if 5000 < perS ps then (0, 0, 2) else (stR ps (perS ps) ps.length, perS ps, 0) := rfl
  have hn1 := hfit.2.1
  have hn2 := hfit.2.2.1
  have Hr := Lib.hid hr
  have Cv := Lib.hid cv
  have Hb := Lib.hid hb
  have Cp := Lib.hid cp
  have Cm := Lib.hid cm
  have Hfi := Lib.hid hfirst
  have Hst := Lib.hid hst
  have Hsl := Lib.hid hsl
  have Hfin := Lib.hid hfin
  have hw : withinB (ps.length : Int) 1 6 = true := withinB_true.2 (by omega)
  clear hr cv hok hb hA cp cm hfit hfirst hst hsl hfin hpos
  generalize perS ps = n at *
  obtain ⟨m, hm⟩ : ∃ m, m = ps.length := ⟨_, rfl⟩
  rw [← hm] at h1 h6 hw Cp Hfin ⊢
  have Hm := Lib.hid hm
  clear hm
  go_enter Try.func20, Try.ntmps20
  go_wp2_with (go_at_call 54; refine (within_any _ _ _ _).mono ?_; rintro e w' ⟨rfl, rfl⟩)
  go_loopw [5] (fun i wr => ∃ k : Nat, k ≤ m ∧ i = .int .i64 k ∧ Ext w wr) (fun i _ => m - (intOf i).toNat)
  case atStart => exact ⟨0, by omega, rfl, Ext.refl _⟩
  case round =>
    obtain ⟨k, hk, rfl, hex⟩ := hrel
    by_cases hlt : k < m
    · have hkp : k < ps.length := by rw [← Hm.out]; exact hlt
      obtain ⟨ad, rfl, q0, q1, q2, _⟩ := Hr.out k hkp
      have q0 := q0 wr hex
      have q1 := q1 wr hex
      have q2 := q2 wr hex
      have cv := Cv.out k hkp wr hex
      rw [Hb.out k hkp] at cv
      have Cv' := Lib.hid cv
      clear cv
      generalize ps[k].lift.length = q at *
      generalize ps[k].a = a at *
      generalize ps[k].c = c0 at *
      go_wp2_with (go_at_call 53; refine Cv'.out.mono ?_; rintro e w' ⟨rfl, hx⟩)
      go_roundw
      case rel => exact ⟨k + 1, by omega, by go_num, hex.trans hx⟩
      case measure => simp [intOf]; omega
    · by_cases h5 : 5000 < n
      · go_wp2_with (go_at_call 61; refine (Cp.out _ hex).mono ?_; rintro e w' ⟨rfl, rfl⟩)
        go_ret3
        exact ⟨retn3 (by rw [Hfin.out, if_pos h5]; rfl) (by rw [Hfin.out, if_pos h5]; rfl) (by rw [Hfin.out, if_pos h5]; rfl), hex⟩
      · have e0 : IntKind.i64.wrap ((n : Int) * 22) = ((n * 22 : Nat) : Int) := by rw [IntKind.wrap_i64]; omega
        go_wp2_with (go_at_call 61; refine (Cp.out _ hex).mono ?_; rintro e w' ⟨rfl, rfl⟩)
        obtain ⟨wo, rfl⟩ : ∃ wo : World, wo = wr := ⟨_, rfl⟩
        go_loopw [7, 8] (fun s i wr => ∃ k : Nat, k ≤ m ∧ i = .int .i64 k ∧ s = .int .i64 (stR ps n k) ∧ Ext w wr) (fun _ i _ => m - (intOf i).toNat)
        case atStart => exact ⟨0, by omega, rfl, rfl, hex⟩
        case round =>
          obtain ⟨i, hi, rfl, rfl, hex2⟩ := hrel
          by_cases hlt2 : i < m
          · have hip : i < ps.length := by rw [← Hm.out]; exact hlt2
            obtain ⟨ad, rfl, q0, q1, q2, _⟩ := Hr.out i hip
            have q0 := q0 wr hex2
            have q1 := q1 wr hex2
            have q2 := q2 wr hex2
            have cm := Cm.out i hip (n * 22) (by omega) wr hex2
            have hfr := Hfi.out (by omega) i hip
            have hs1 := Hst.out i hip
            have hs2 := Hsl.out (by omega) i
            have hs3 := Hsl.out (by omega) (i + 1)
            have Cm' := Lib.hid cm
            have Hfr := Lib.hid hfr
            have Hs1 := Lib.hid hs1
            have hf20 := hfr.2.1
            clear cm hfr hs1
            have hat : ∀ t, ps[i].at t = placeS ps[i].lift ps[i].op ps[i].st t := fun _ => rfl
            have Hat := Lib.hid hat
            clear hat
            generalize ps[i].a = a at *
            generalize ps[i].c = c0 at *
            go_wp2_with (go_at_call 55; refine Cm'.out.mono ?_; rintro e w2 ⟨v, rfl, hown⟩)
            unfold OwnI at hown
            rw [placesL_length] at hown
            obtain ⟨g, cap, rfl, _, _⟩ := hown.at_ (by omega)
            have hcell := fun t (ht : t < n * 22 + 1) => getI_placesL hown ht
            have hx2 := hown.ext
            have Hcell := Lib.hid hcell
            clear hcell hown
            obtain ⟨w5, rfl⟩ : ∃ w5 : World, w5 = wr := ⟨_, rfl⟩
            go_loopw [10] (fun kk wq => ∃ K : Nat, K ≤ ps[i].first n ∧ kk = .int .i64 K ∧ Ext w2 wq) (fun kk _ => 21 - (intOf kk).toNat)
            case atStart => exact ⟨0, by omega, rfl, Ext.refl _⟩
            case round =>
              obtain ⟨K, hK, rfl, hex3⟩ := hrel
              have hKn : K * n ≤ 20 * n := Nat.mul_le_mul_right n (by omega)
              have hcalm : ps[i].calm n K = decide (placeS ps[i].lift ps[i].op ps[i].st (K * n) = placeS ps[i].lift ps[i].op ps[i].st (K * n + n)) := rfl
              have hfe : K = ps[i].first n → K * n = ps[i].first n * n := fun h => by rw [h]
              have e1 : IntKind.i64.wrap ((K : Int) * (n : Int)) = ((K * n : Nat) : Int) := by
                rw [IntKind.wrap_i64]
                have : ((K * n : Nat) : Int) = (K : Int) * (n : Int) := Int.natCast_mul K n
                omega
              generalize K * n = T at *
              have c1 := fun w' (he : Ext wr w') => (hex3.trans he).cell (Hcell.out T (by omega))
              have c2 := fun w' (he : Ext wr w') => (hex3.trans he).cell (Hcell.out (T + n) (by omega))
              have e2 : IntKind.i64.wrap ((T : Int) + (n : Int)) = ((T + n : Nat) : Int) := by rw [IntKind.wrap_i64]; omega
              have b1 : (T : Int) < ((n * 22 + 1 : Nat) : Int) := by omega
              have b2 : ((T + n : Nat) : Int) < ((n * 22 + 1 : Nat) : Int) := by omega
              have Hcalm := Lib.hid hcalm
              have Hfe := Lib.hid hfe
              clear hcalm hfe
              generalize placeS ps[i].lift ps[i].op ps[i].st T = x at *
              generalize placeS ps[i].lift ps[i].op ps[i].st (T + n) = y at *
              by_cases hK2 : K < ps[i].first n
              · have hne : x ≠ y := by
                  have := Hfr.out.2.2 K hK2
                  rw [Hcalm.out] at this
                  exact of_decide_eq_false this
                have hb : (x != y) = true := by rw [bne_iff_ne]; exact hne
                clear hne
                go_wp2
                go_quiet (fail)
                go_wp2
                go_roundw
                case rel => exact ⟨K + 1, by omega, by go_num, hex3.trans (by simp)⟩
                case measure => simp [intOf]; omega
              · have hK3 : K = ps[i].first n := by omega
                have heq : x = y := by
                  have := Hfr.out.1
                  rw [← hK3, Hcalm.out] at this
                  exact of_decide_eq_true this
                have hb : (x != y) = false := by simp [heq]
                have hT := Hfe.out hK3
                rw [← hT] at Hs1
                clear heq hT hK3
                go_wp2
                go_quiet (fail)
                go_wp2
                go_roundw
                case rel => exact ⟨i + 1, by omega, by go_num, by rw [Hs1.out]; congr 1; split <;> omega, hex2.trans (hx2.trans (hex3.trans (by simp)))⟩
                case measure => simp [intOf]; omega
          · have him : i = m := by omega
            go_wp2
            go_ret3
            exact ⟨retn3 (by rw [Hfin.out, if_neg h5, him, Hm.out]) (by rw [Hfin.out, if_neg h5]) (by rw [Hfin.out, if_neg h5]; rfl), hex2⟩
end Go.Proofs.Ytbclbcldplmppaa

/- Pistons, ninth text: the lists that the code's Cycle goes through. No walk. -/
namespace Go.Proofs.Ytbclbcldplmppaa

def pat (ps : List Pis) (j t : Nat) : Int := match ps[j]? with | some p => p.at t | none => 0
theorem pat_eq {ps : List Pis} {j : Nat} (h : j < ps.length) (t : Nat) : pat ps j t = ps[j].at t := by simp [pat, h]
/-- The places when i pistons have gone through a period from T on, and the next one k ticks of it. -/
def nx (ps : List Pis) (n T i k : Nat) : List Int := (List.range ps.length).map fun j => if j < i then pat ps j (T + n) else if j = i then pat ps j (T + k) else pat ps j T
theorem nx_length (ps : List Pis) (n T i k : Nat) : (nx ps n T i k).length = ps.length := by simp [nx]
theorem nx_get (ps : List Pis) (n T i k : Nat) (h : i < ps.length) : (nx ps n T i k)[i]? = some (ps[i].at (T + k)) := by simp [nx, h, pat_eq]
theorem nx_set (ps : List Pis) (n T i k : Nat) (h : i < ps.length) : (nx ps n T i k).set i (ps[i].at (T + k + 1)) = nx ps n T i (k + 1) := by
  apply List.ext_getElem
  · simp [nx]
  · intro j h1 h2
    simp only [nx, List.getElem_set, List.getElem_map, List.getElem_range]
    by_cases e : i = j
    · subst e
      rw [if_pos rfl, if_neg (by omega), if_pos rfl, pat_eq h]
      rfl
    · rw [if_neg e]
      by_cases e2 : j < i
      · rw [if_pos e2, if_pos e2]
      · rw [if_neg e2, if_neg e2, if_neg (by omega), if_neg (by omega)]
theorem nx_next (ps : List Pis) (n T i : Nat) : nx ps n T i n = nx ps n T (i + 1) 0 := by
  apply List.map_congr_left
  intro j _
  by_cases e : j < i
  · rw [if_pos e, if_pos (by omega)]
  · by_cases e2 : j = i
    · rw [if_neg e, if_pos e2, if_pos (by omega)]
    · rw [if_neg e, if_neg e2, if_neg (by omega)]
      by_cases e3 : j = i + 1
      · rw [if_pos e3]; rfl
      · rw [if_neg e3]
theorem nx_full (ps : List Pis) (n T : Nat) : nx ps n T ps.length 0 = nx ps n (T + n) 0 0 := by
  apply List.map_congr_left
  intro j hj
  have hj : j < ps.length := by simpa using hj
  rw [if_pos hj, if_neg (by omega)]
  by_cases e : j = 0
  · rw [if_pos e]; rfl
  · rw [if_neg e]
theorem nx_zero (ps : List Pis) (n : Nat) : (madeCells (Value.cells (.int .i64 0)) (ps.length * 1)).toList = (nx ps n 0 0 0).map (Value.int .i64) := by
  apply List.ext_getElem
  · simp [nx, madeCells]
  · intro i h1 h2
    have hi : i < ps.length := by simpa [nx] using h2
    simp [nx, madeCells, Value.cells, Nat.mod_one, pat_eq hi, Pis.at, placeS]
theorem nx_at (ps : List Pis) (n T j : Nat) (h : j < ps.length) : getI (nx ps n T 0 0) j = ps[j].at T := by
  simp only [getI, nx]
  simp [h, pat_eq]
theorem nx_same (ps : List Pis) (n K : Nat) : sameB (nx ps n (K * n) ps.length 0) (nx ps n (K * n) 0 0) = allCalm ps n K := by
  rw [nx_full]
  cases hc : allCalm ps n K with
  | true =>
    unfold allCalm at hc
    rw [List.all_eq_true] at hc
    refine (sameB_true (by simp [nx_length]) fun j hj => ?_).symm
    rw [nx_length] at hj
    rw [nx_at _ _ _ _ hj, nx_at _ _ _ _ hj]
    exact (of_decide_eq_true (hc _ (List.getElem_mem hj))).symm
  | false =>
    unfold allCalm at hc
    rw [List.all_eq_false] at hc
    obtain ⟨p, hp, hq⟩ := hc
    obtain ⟨j, hj, rfl⟩ := List.getElem_of_mem hp
    refine (sameB_at j ?_).symm
    rw [nx_at _ _ _ _ hj, nx_at _ _ _ _ hj]
    intro h
    exact hq (decide_eq_true h.symm)

theorem lcm_step (L q : Nat) : L / Nat.gcd q L * q = Nat.lcm L q := by
  rw [Nat.gcd_comm]
  exact Nat.div_mul_right_comm (Nat.gcd_dvd_left L q) q
theorem dvS_nat (q L : Nat) : dvS (q : Int) (L : Int) = ((Nat.gcd q L : Nat) : Int) := by
  unfold dvS
  rw [if_neg (by omega), Int.one_mul]
  rfl
theorem lcmTo_succ (ps : List Pis) (i : Nat) (h : i < ps.length) : lcmTo ps (i + 1) = Nat.lcm (lcmTo ps i) ps[i].lift.length := by
  conv => lhs; unfold lcmTo
  rw [List.getElem?_eq_getElem h]
/-- The bound as the code needs it: the entries of the first k pistons alone. -/
theorem lcmTo_le' (ps : List Pis) : ∀ i, (∀ j (hj : j < ps.length), j < i → 1 ≤ ps[j].lift.length ∧ ps[j].lift.length ≤ 24) → 0 < lcmTo ps i ∧ lcmTo ps i ≤ 24 ^ i
  | 0, _ => by simp [lcmTo]
  | i + 1, h => by
    have ih := lcmTo_le' ps i (fun j hj hji => h j hj (by omega))
    unfold lcmTo
    rw [Nat.pow_succ]
    cases hp : ps[i]? with
    | none => simp only; omega
    | some q =>
      obtain ⟨hi, rfl⟩ := List.getElem?_eq_some_iff.1 hp
      have h3 := h i hi (by omega)
      simp only
      exact ⟨Nat.lcm_pos ih.1 (by omega), Nat.le_trans (Nat.le_of_dvd (Nat.mul_pos ih.1 (by omega)) (Nat.lcm_dvd_mul _ _)) (Nat.mul_le_mul ih.2 h3.2)⟩
theorem pow24 {i : Nat} (h : i ≤ 6) : 24 ^ i ≤ 191102976 := Nat.le_trans (Nat.pow_le_pow_right (by omega) h) (by decide)

def cycAll (ps : List Pis) : Nat × Nat × Nat := if ps.all Pis.ok = true then cycS ps else (0, 0, 2)
theorem cycAll_bad {ps : List Pis} (h : ¬ ∀ p ∈ ps, p.ok = true) : cycAll ps = (0, 0, 2) := by
  unfold cycAll
  rw [if_neg]
  rw [List.all_eq_true]
  exact h
theorem cycAll_good {ps : List Pis} (h : ∀ p ∈ ps, p.ok = true) : cycAll ps = cycS ps := by
  unfold cycAll
  rw [if_pos]
  rw [List.all_eq_true]
  exact h
theorem cycS_big {ps : List Pis} (h : ∀ p ∈ ps, p.ok = true) (h5 : 5000 < lcmS ps) : cycS ps = (0, 0, 2) := by
  unfold cycS
  rw [if_pos ((per_lcm ps (fun p hp => by have := (p.okP (h p hp)).1; omega)).1.2 h5)]
theorem cycS_small {ps : List Pis} (h : ∀ p ∈ ps, p.ok = true) (h5 : lcmS ps ≤ 5000) : cycS ps = (kAll ps (lcmS ps) * lcmS ps, lcmS ps, 0) := by
  have hp := (per_lcm ps (fun p hp => by have := (p.okP (h p hp)).1; omega)).2 h5
  unfold cycS
  rw [hp, if_neg (by omega), kAll_eq h ((lcmS_dvd ps _).1 (Nat.dvd_refl _))]
end Go.Proofs.Ytbclbcldplmppaa

/- Pistons, tenth text: the code's Cycle. -/
namespace Go.Proofs.Ytbclbcldplmppaa
open Go.RowKit

set_option maxHeartbeats 400000 in
theorem cycle_many (A : Option Addr) (c n : Nat) (w : World) (hn : ¬ (1 ≤ n ∧ n ≤ 6)) :
    Calls Try.prog 19 #[.slice A n c] w fun e w' => e = .returned (.tuple #[.int .i64 0, .int .i64 0, .int .i64 4]) ∧ Ext w w' := by
  have hn' : n = 0 ∨ 6 < n := by omega
  clear hn
  rcases hn' with rfl | hn
  all_goals
    go_enter Try.func19, Try.ntmps19
    go_wp2
    go_ret3
    exact ⟨rfl, Ext.refl _⟩

set_option maxHeartbeats 1600000 in
theorem cycle_any (A : Option Addr) (c : Nat) (ps : List Pis) (w : World) (hA : PRow w A ps) (h1 : 1 ≤ ps.length) (h6 : ps.length ≤ 6) :
    Calls Try.prog 19 #[.slice A ps.length c] w fun e w' => e = .returned (.tuple #[.int .i64 ((cycAll ps).1 : Nat), .int .i64 ((cycAll ps).2.1 : Nat), .int .i64 ((cycAll ps).2.2 : Nat)]) ∧ Ext w w' := by
  have hr := fun k (hk : k < ps.length) => hA.at_ hk
  have cv := fun k (hk : k < ps.length) (w' : World) (he : Ext w w') => check_piston ps[k].a ps[k].c ps[k].lift ps[k].op ps[k].st w' ((hA.lifts _ (List.getElem_mem hk)).ext he) (hA.small _ (List.getElem_mem hk))
  have ct := fun k (hk : k < ps.length) (hn : 0 < ps[k].lift.length) (x : Int) (t : Nat) (h1 : 1 ≤ t) (h2 : t ≤ 1000000) (h3 : 0 ≤ x) (h4 : x ≤ 1000000) (w' : World) (he : Ext w w') => tick_any ps[k].a ps[k].c ps[k].lift ps[k].op ps[k].st x t w' ((hA.lifts _ (List.getElem_mem hk)).ext he) hn (hA.small _ (List.getElem_mem hk)) h1 h2 h3 h4
  have Hr := Lib.hid hr
  have Cv := Lib.hid cv
  have Ct := Lib.hid ct
  clear hr cv ct hA
  obtain ⟨m, hm⟩ : ∃ m, m = ps.length := ⟨_, rfl⟩
  rw [← hm] at h1 h6 ⊢
  have Hm := Lib.hid hm
  clear hm
  go_enter Try.func19, Try.ntmps19
  go_wp2
  go_loopw [24, 3] (fun i L wr => ∃ k : Nat, k ≤ m ∧ i = .int .i64 k ∧ L = .int .i64 (lcmTo ps k) ∧ Ext w wr ∧ ∀ j (hj : j < ps.length), j < k → vpP ps[j].lift ps[j].op ps[j].st) (fun i _ _ => m - (intOf i).toNat)
  case atStart => exact ⟨0, by omega, rfl, rfl, Ext.refl _, fun j _ hj => by omega⟩
  case round =>
    obtain ⟨k, hk, rfl, rfl, hex, hall⟩ := hrel
    have Hall := Lib.hid hall
    clear hall
    by_cases hlt : k < m
    · have hkp : k < ps.length := by rw [← Hm.out]; exact hlt
      obtain ⟨ad, rfl, q0, q1, q2, _⟩ := Hr.out k hkp
      have q0 := q0 wr hex
      have q1 := q1 wr hex
      have q2 := q2 wr hex
      have cv := Cv.out k hkp
      have hstep : vpP ps[k].lift ps[k].op ps[k].st → ∀ j (hj : j < ps.length), j < k + 1 → vpP ps[j].lift ps[j].op ps[j].st := fun h j hj hjk => by
        by_cases e : j = k
        · subst e; exact h
        · exact Hall.out j hj (by omega)
      have hbad : ¬ vpP ps[k].lift ps[k].op ps[k].st → cycAll ps = (0, 0, 2) := fun h => cycAll_bad fun hh => h (Pis.okP (hh _ (List.getElem_mem hkp)))
      have hL := lcmTo_le' ps k (fun j hj hjk => ⟨(Hall.out j hj hjk).1, (Hall.out j hj hjk).2.1⟩)
      have hL2 := pow24 (i := k) (by omega)
      have hLs := lcmTo_succ ps k hkp
      have hq24 : vpP ps[k].lift ps[k].op ps[k].st → 1 ≤ ps[k].lift.length ∧ ps[k].lift.length ≤ 24 := fun h => ⟨h.1, h.2.1⟩
      have Cv' := Lib.hid cv
      have Hst := Lib.hid hstep
      have Hbad := Lib.hid hbad
      have HLs := Lib.hid hLs
      have Hq24 := Lib.hid hq24
      have hL3 : lcmTo ps k ≤ 191102976 := by omega
      have hL4 := hL.1
      clear hstep cv hbad hL hL2 hLs hq24
      have hcp : cpS ps[k].lift ps[k].op ps[k].st = if vpP ps[k].lift ps[k].op ps[k].st then 0 else 2 := by simp [cpS, vpB]
      rw [hcp] at Cv'
      clear hcp
      have hcell0 : ∀ w', Ext (wr.alloc (.cells #[.slice ps[k].a ps[k].lift.length ps[k].c, .int .i64 ps[k].op, .int .i64 ps[k].st] 24)) w' → w'.cell? ⟨wr.heap.size, 0, none⟩ = some (.slice ps[k].a ps[k].lift.length ps[k].c) := fun w' he => he.cell (by simp)
      generalize lcmTo ps k = L at *
      generalize ps[k].lift.length = q at *
      generalize ps[k].a = a at *
      generalize ps[k].c = c0 at *
      by_cases hv : vpP ps[k].lift ps[k].op ps[k].st
      · rw [if_pos hv] at Cv'
        obtain ⟨hq1, hq2⟩ := Hq24.out hv
        go_wp2_with (go_at_call 17; refine (Cv'.out _ (hex.trans (by simp))).mono ?_; rintro e w1 ⟨rfl, hx⟩)
        have hcell1 := fun w' (he : Ext w1 w') => hcell0 w' (hx.trans he)
        have hg1 : Nat.gcd q L ≤ q := Nat.le_of_dvd (by omega) (Nat.gcd_dvd_left q L)
        have hg0 : 0 < Nat.gcd q L := Nat.gcd_pos_of_pos_left L (by omega)
        have hls := lcm_step L q
        rw [← HLs.out] at hls
        have hdv : L / Nat.gcd q L ≤ L := Nat.div_le_self _ _
        have hdq : L / Nat.gcd q L * q ≤ 191102976 * 24 := Nat.mul_le_mul (by omega) hq2
        have cd := fun w' => divisor_any (q : Int) (L : Int) w' (by omega) (by omega) (fun _ => by omega)
        rw [dvS_nat] at cd
        have Cd := Lib.hid cd
        have Hls := Lib.hid hls
        have e1 : IntKind.i64.wrap ((L : Int) / ((Nat.gcd q L : Nat) : Int)) = ((L / Nat.gcd q L : Nat) : Int) := by
          rw [← Int.natCast_ediv]; exact wrap_nat _ (Nat.le_trans hdv (by omega))
        have e2 : IntKind.i64.wrap (((L / Nat.gcd q L : Nat) : Int) * (q : Int)) = ((L / Nat.gcd q L * q : Nat) : Int) := by
          rw [← Int.natCast_mul]; exact wrap_nat _ (Nat.le_trans hdq (by omega))
        have e1' : IntKind.i64.wrap ((L : Int).tdiv ((Nat.gcd q L : Nat) : Int)) = ((L / Nat.gcd q L : Nat) : Int) := by
          rw [Int.tdiv_eq_ediv_of_nonneg (by omega)]; exact e1
        have e3 : ¬ Nat.gcd q L = 0 := by omega
        clear cd hls
        generalize L / Nat.gcd q L * q = L2 at *
        generalize L / Nat.gcd q L = L1 at *
        generalize Nat.gcd q L = G at *
        refine wp_region_calm 12 (fun _ _ v _ => v = .int .i64 (G : Int)) (fun _ _ _ _ _ _ h => h) (by kernel_rfl) (by kernel_rfl) ?_
        simp only [List.take_succ_cons, List.take_zero, List.drop_succ_cons, List.drop_zero]
        refine calm_quiet calm_mono_final 5 (by kernel_rfl) ?_
        simp only [List.take_succ_cons, List.take_zero, List.drop_succ_cons, List.drop_zero]
        repeat (go_big_quiet_step (fail))
        refine wpQuiet_nil ?_
        refine calm_call calm_mono_final 58 #[.int .i64 (q : Int), .int .i64 (L : Int)] rfl (fun w => ?_) (fun w he _ => ?_) ?_
        · go_simp
        · exact (Cd.out _).mono fun e w'' ⟨he', hx⟩ => ⟨_, he', hx, rfl⟩
        rintro _ _ _ rfl
        simp only [Act.put, List.setIfInBounds_toArray, List.set_cons_succ, List.set_cons_zero]
        refine calm_quiet calm_mono_final 6 (by kernel_rfl) ?_
        simp only [List.take_succ_cons, List.take_zero, List.drop_succ_cons, List.drop_zero]
        repeat (go_big_quiet_step (fail))
        refine wpQuiet_nil ?_
        refine calm_nil fun w3 he3 _ => ?_
        go_wp2
        go_roundw
        case rel => exact ⟨k + 1, by omega, by go_num, by rw [Hls.out], hex.trans ((Ext.alloc (Ext.refl _) _).trans (hx.trans he3)), Hst.out hv⟩
        case measure => simp [intOf]; omega
      · rw [if_neg hv] at Cv'
        go_wp2_with (go_at_call 17; refine (Cv'.out _ (hex.trans (by simp))).mono ?_; rintro e w1 ⟨rfl, hx⟩)
        go_ret3
        exact ⟨retn3 (by rw [Hbad.out hv]; rfl) (by rw [Hbad.out hv]; rfl) (by rw [Hbad.out hv]; rfl), hex.trans (Ext.trans (by simp) hx)⟩
    · have hkm : k = m := by omega
      have hps : ∀ p ∈ ps, p.ok = true := fun p hp => by
        obtain ⟨j, hj, rfl⟩ := List.getElem_of_mem hp
        have := Hall.out j hj (by rw [← Hm.out] at hj; omega)
        simpa [Pis.ok, vpB] using this
      have hL0 : lcmTo ps k = lcmS ps := by rw [hkm, Hm.out]; rfl
      have hall24 : ∀ p ∈ ps, 1 ≤ p.lift.length ∧ p.lift.length ≤ 24 := fun p hp => ⟨(p.okP (hps p hp)).1, (p.okP (hps p hp)).2.1⟩
      have hpos : 0 < lcmTo ps k := lcmTo_pos ps (fun p hp => (hall24 p hp).1) k
      by_cases h5 : 5000 < lcmTo ps k
      · have hbad : cycAll ps = (0, 0, 2) := by rw [cycAll_good hps]; exact cycS_big hps (by rw [← hL0]; exact h5)
        have Hbad := Lib.hid hbad
        clear hbad hps hall24 hL0 hkm hpos
        generalize lcmTo ps k = L at *
        go_wp2
        go_ret3
        exact ⟨retn3 (by rw [Hbad.out]; rfl) (by rw [Hbad.out]; rfl) (by rw [Hbad.out]; rfl), hex⟩
      · have hgood : cycAll ps = (kAll ps (lcmTo ps k) * lcmTo ps k, lcmTo ps k, 0) := by rw [cycAll_good hps, hL0]; exact cycS_small hps (by rw [← hL0]; omega)
        have hka : allCalm ps (lcmTo ps k) (kAll ps (lcmTo ps k)) = true ∧ kAll ps (lcmTo ps k) ≤ 20 ∧ ∀ j, j < kAll ps (lcmTo ps k) → allCalm ps (lcmTo ps k) j = false := by
          rw [hL0]; exact kAll_spec hps ((lcmS_dvd ps _).1 (Nat.dvd_refl _))
        have hbd : ∀ j (hj : j < ps.length) t, 0 ≤ ps[j].at t ∧ ps[j].at t ≤ 20 := fun j hj t => by
          have hv := Pis.okP (hps _ (List.getElem_mem hj))
          have := place_bd ps[j].lift ps[j].op ps[j].st hv.2.2.2.2.2.1 t
          have h20 := hv.2.2.2.2.2.2
          unfold Pis.at
          omega
        have hpl : ∀ j (hj : j < ps.length), 0 < ps[j].lift.length := fun j hj => (hall24 _ (List.getElem_mem hj)).1
        have hnz := nx_zero ps (lcmTo ps k)
        have Hgood := Lib.hid hgood
        have Hka := Lib.hid hka
        have Hbd := Lib.hid hbd
        have Hpl := Lib.hid hpl
        rw [← Hm.out] at hnz
        have Hnz := Lib.hid hnz
        clear hgood hka hbd hps hall24 hL0 hkm hpl hnz Cv
        have hK20 := Hka.out.2.1
        generalize lcmTo ps k = n at *
        go_wp2_with (refine own_make (w1 := w) int_elem rfl _ _ rfl Try.underlying22 _ m rfl rfl (by omega) (by unfold maxLen; omega) hex ?_; intro w2 hown0 hx0)
        rw [Hnz.out] at hown0
        obtain ⟨wo, rfl⟩ : ∃ wo : World, wo = wr := ⟨_, rfl⟩
        go_loopw [3, 8, 9] (fun l3 v t wq => ∃ K : Nat, l3 = .int .i64 n ∧ K ≤ kAll ps n ∧ t = .int .i64 ((K * n : Nat) : Int) ∧ Own w wq 3 1 v m ((nx ps n (K * n) 0 0).map vint)) (fun _ _ t _ => 22 * n - (intOf t).toNat)
        case atStart => exact ⟨0, rfl, Nat.zero_le _, by simp, by rw [Nat.zero_mul]; exact hown0⟩
        case round =>
          obtain ⟨K, rfl, hK, rfl, hown⟩ := hrel
          have hT20 : K * n ≤ 20 * n := Nat.mul_le_mul_right n (by omega)
          have hsame := nx_same ps n K
          rw [← Hm.out] at hsame
          have hnxt : ∀ i, nx ps n (K * n) i n = nx ps n (K * n) (i + 1) 0 := nx_next ps n (K * n)
          have hfull := nx_full ps n (K * n)
          rw [← Hm.out, show K * n + n = (K + 1) * n by rw [Nat.add_mul]; omega] at hfull
          have hlen : ∀ i j, (nx ps n (K * n) i j).length = m := fun i j => by rw [nx_length, Hm.out]
          have hset : ∀ i j (hi : i < ps.length), (nx ps n (K * n) i j).set i (ps[i].at (K * n + j + 1)) = nx ps n (K * n) i (j + 1) := fun i j hi => nx_set ps n (K * n) i j hi
          have hget : ∀ i j (hi : i < ps.length), (nx ps n (K * n) i j)[i]? = some (ps[i].at (K * n + j)) := fun i j hi => nx_get ps n (K * n) i j hi
          have hnext : ((K * n + n : Nat) : Int) = (((K + 1) * n : Nat) : Int) := by rw [Nat.add_mul]; omega
          have Hsame := Lib.hid hsame
          have Hnxt := Lib.hid hnxt
          have Hfull := Lib.hid hfull
          have Hlen := Lib.hid hlen
          have Hset := Lib.hid hset
          have Hget := Lib.hid hget
          have Hnext := Lib.hid hnext
          have hKT : K = kAll ps n → K * n = kAll ps n * n := fun h => by rw [h]
          have HKT := Lib.hid hKT
          clear hsame hnxt hfull hlen hset hget hnext hKT
          generalize hTe : K * n = T at *
          have HTe := Lib.hid hTe
          clear hTe
          obtain ⟨g, cg, rfl, hge, hgl⟩ := hown.at_ (by omega)
          have hexq := hown.ext
          have ccl := clone_ints (some ⟨g, 0, none⟩) cg (nx ps n T 0 0) wr hown.row (by rw [Hlen.out]; omega) (by rw [Hlen.out]; omega)
          rw [Hlen.out] at ccl
          have Ccl := Lib.hid ccl
          clear ccl
          go_wp2_with (go_at_call 59; refine Ccl.out.mono ?_; rintro e w3 ⟨v3, rfl, hown3⟩)
          unfold OwnI at hown3
          rw [Hlen.out] at hown3
          obtain ⟨g3, cg3, rfl, hge3, hgl3⟩ := hown3.at_ (by omega)
          obtain ⟨wp, rfl⟩ : ∃ wp : World, wp = wr := ⟨_, rfl⟩
          go_loopw [57] (fun ii wq => ∃ i : Nat, i ≤ m ∧ ii = .int .i64 i ∧ Own wp wq 3 1 (.slice (some ⟨g3, 0, none⟩) m cg3) m ((nx ps n T i 0).map vint)) (fun ii _ => m - (intOf ii).toNat)
          case atStart => exact ⟨0, by omega, rfl, hown3⟩
          case round =>
            obtain ⟨i, hi, rfl, hownq⟩ := hrel
            by_cases hlt2 : i < m
            · have hip : i < ps.length := by rw [← Hm.out]; exact hlt2
              obtain ⟨ad, rfl, q0, q1, q2, _⟩ := Hr.out i hip
              have hei := hexq.trans hownq.ext
              have q0 := q0 wr hei
              have q1 := q1 wr hei
              have q2 := q2 wr hei
              have ct := Ct.out i hip (Hpl.out i hip)
              have hbd := Hbd.out i hip
              have hset := Hset.out i
              have hget := Hget.out i
              have hat : ∀ t, tickS ps[i].lift ps[i].op ps[i].st (ps[i].at t) (t + 1) = ps[i].at (t + 1) := fun _ => rfl
              have hg3 := (hownq.at_ (by omega))
              obtain ⟨g4, cg4, he4, _, hlt4⟩ := hg3
              have hgg : g3 < wr.heap.size := by injection he4 with h1 h2 h3; injection h1 with h1; injection h1 with h1; rw [h1]; exact hlt4
              have Ct' := Lib.hid ct
              have Hbd' := Lib.hid hbd
              have Hset' := Lib.hid hset
              have Hget' := Lib.hid hget
              have Hat := Lib.hid hat
              clear ct hbd hset hget hat he4 hlt4
              generalize ps[i].lift.length = q at *
              generalize ps[i].a = a at *
              generalize ps[i].c = c0 at *
              go_wp2
              obtain ⟨wb, rfl⟩ : ∃ wb : World, wb = wr := ⟨_, rfl⟩
              go_loopw [63, 13] (fun kk _ wq => ∃ j : Nat, j ≤ n ∧ kk = .int .i64 j ∧ Own wp wq 3 1 (.slice (some ⟨g3, 0, none⟩) m cg3) m ((nx ps n T i j).map vint) ∧ wq.cell? ⟨wb.heap.size, 0, none⟩ = some (.slice a q c0) ∧ wq.cell? ⟨wb.heap.size, 1, none⟩ = some (.int .i64 ps[i].op) ∧ wq.cell? ⟨wb.heap.size, 2, none⟩ = some (.int .i64 ps[i].st)) (fun kk _ _ => n - (intOf kk).toNat)
              case atStart => exact ⟨0, by omega, rfl, hownq.alloc _, by simp, by simp, by simp⟩
              case round =>
                obtain ⟨j, hj, rfl, hownj, b0, b1, b2⟩ := hrel
                by_cases hlt3 : j < n
                · have hcx := hownj.cell (j := i) (by simp [Hlen.out]; exact hlt2)
                  rw [show (List.map vint (nx ps n T i j))[i]? = some (vint (ps[i].at (T + j))) by rw [List.getElem?_map, Hget'.out j hip]; rfl] at hcx
                  have hbx := Hbd'.out (T + j)
                  have hatj := Hat.out (T + j)
                  have c0' := fun w' (he : Ext wr w') => he.cell b0
                  have c1' := fun w' (he : Ext wr w') => he.cell b1
                  have c2' := fun w' (he : Ext wr w') => he.cell b2
                  have c3' := fun w' (he : Ext wr w') => he.cell hcx
                  have hsetj := Hset'.out j hip
                  have hlenj := Hlen.out i j
                  have hej : Ext w wr := hexq.trans hownj.ext
                  have hexj := hownj
                  have Hatj := Lib.hid hatj
                  have Hsetj := Lib.hid hsetj
                  have Hlenj := Lib.hid hlenj
                  have Hb0 := Lib.hid b0
                  have Hb1 := Lib.hid b1
                  have Hb2 := Lib.hid b2
                  have e1 : IntKind.i64.wrap ((T : Int) + (j : Int)) = ((T + j : Nat) : Int) := by rw [IntKind.wrap_i64]; omega
                  have e2 : IntKind.i64.wrap (((T + j : Nat) : Int) + 1) = ((T + j + 1 : Nat) : Int) := by rw [IntKind.wrap_i64]; omega
                  have b3 : (i : Int) < (m : Int) := by omega
                  clear hatj hsetj hlenj hcx b0 b1 b2
                  generalize ps[i].at (T + j + 1) = y at *
                  generalize ps[i].at (T + j) = x at *
                  go_wp2
                  refine wp_region_calm 12 (fun _ _ v _ => v = .int .i64 y) (fun _ _ _ _ _ _ h => h) (by kernel_rfl) (by kernel_rfl) ?_
                  simp only [List.take_succ_cons, List.take_zero, List.drop_succ_cons, List.drop_zero]
                  refine calm_quiet calm_mono_final 11 (by kernel_rfl) ?_
                  simp only [List.take_succ_cons, List.take_zero, List.drop_succ_cons, List.drop_zero]
                  repeat (go_big_quiet_step (fail))
                  refine wpQuiet_nil ?_
                  refine calm_call calm_mono_final 52 #[.agg #[.slice a q c0, .int .i64 ps[i].op, .int .i64 ps[i].st], .int .i64 x, .int .i64 ((T + j + 1 : Nat) : Int)] rfl (fun w => ?_) (fun w he _ => ?_) ?_
                  · go_simp
                  · exact (Ct'.out x (T + j + 1) (by omega) (by omega) (by omega) (by omega) w (hej.trans he)).mono fun e w'' ⟨he', hx⟩ => ⟨_, he', hx, by rw [Hatj.out]⟩
                  rintro _ _ _ rfl
                  refine calm_nil fun w7 he7 _ => ?_
                  have hown7 := hexj.later he7
                  obtain ⟨z, hz⟩ : ∃ z, w7.cell? ⟨g3, i, none⟩ = some z := ⟨_, (hown7.cell (j := i) (by simp [Hlenj.out]; exact hlt2)).trans (List.getElem?_eq_getElem (by simp [Hlenj.out]; exact hlt2))⟩
                  have hf := hown7.free i
                  have hne : ∀ o, (⟨g3, i, none⟩ : Addr) ≠ ⟨wb.heap.size, o, none⟩ := fun o h => by injection h with h; omega
                  go_wp2
                  go_roundw
                  case rel =>
                    refine ⟨j + 1, by omega, by go_num, ?_, ?_, ?_, ?_⟩
                    · rw [← Hsetj.out, List.map_set]
                      exact hown7.store i _
                    · rw [World.cell?_setCell_other _ _ _ _ (hne 0)]; exact he7.cell Hb0.out
                    · rw [World.cell?_setCell_other _ _ _ _ (hne 1)]; exact he7.cell Hb1.out
                    · rw [World.cell?_setCell_other _ _ _ _ (hne 2)]; exact he7.cell Hb2.out
                  case measure => simp [intOf]; omega
                · have hjn : j = n := by omega
                  subst hjn
                  go_wp2
                  go_roundw
                  case rel => exact ⟨i + 1, by omega, by go_num, by rw [← Hnxt.out]; exact hownj⟩
                  case measure => simp [intOf]; omega
            · have him : i = m := by omega
              subst him
              have hrow1 := hownq.row
              have hrow2 : Row wr (some ⟨g, 0, none⟩) ((nx ps n T 0 0).map vint) := Row.ext hown.row hownq.ext
              have ceq := equal_ints (some ⟨g3, 0, none⟩) (some ⟨g, 0, none⟩) cg3 cg _ _ wr hrow1 hrow2 (by rw [Hlen.out]; omega)
              rw [Hlen.out, Hlen.out, Hsame.out] at ceq
              by_cases hKK : K = kAll ps n
              · have hc : allCalm ps n K = true := by rw [hKK]; exact Hka.out.1
                have hTK := HKT.out hKK
                rw [hc] at ceq
                have Ceq := Lib.hid ceq
                have HTK := Lib.hid hTK
                clear ceq hc hTK hKK
                go_wp2_with (go_at_call 60; refine Ceq.out.mono ?_; rintro e w8 ⟨rfl, hx8⟩)
                go_ret3
                exact ⟨retn3 (by rw [Hgood.out, HTK.out]) (by rw [Hgood.out]) (by rw [Hgood.out]; rfl), hexq.trans (hownq.ext.trans hx8)⟩
              · have hc : allCalm ps n K = false := Hka.out.2.2 K (by omega)
                rw [hc] at ceq
                have Ceq := Lib.hid ceq
                clear ceq hc
                go_wp2_with (go_at_call 60; refine Ceq.out.mono ?_; rintro e w8 ⟨rfl, hx8⟩)
                go_roundw
                case rel => exact ⟨K + 1, rfl, by omega, by rw [← Hnext.out]; go_num, by rw [← Hfull.out]; exact (hownq.later hx8).since hexq⟩
                case measure => simp [intOf]; omega
end Go.Proofs.Ytbclbcldplmppaa

/- The chapter's examples: facts. Plain Lean. -/
namespace Go.Proofs.Ytbclbcldplmppaa

theorem ex_cycle (A : Option Addr) (c : Nat) : cycAll [⟨A, c, [5, 5, 0], 3, 1⟩] = (0, 3, 0) := by
  have h : ∀ p ∈ [(⟨A, c, [5, 5, 0], 3, 1⟩ : Pis)], p.ok = true := fun p hp => by
    simp only [List.mem_singleton] at hp
    subst hp
    show vpB [5, 5, 0] 3 1 = true
    decide
  have hl : lcmS [(⟨A, c, [5, 5, 0], 3, 1⟩ : Pis)] = 3 := by
    show Nat.lcm 1 3 = 3
    decide
  have hk : kAll [(⟨A, c, [5, 5, 0], 3, 1⟩ : Pis)] 3 = 0 := by
    have : allCalm [(⟨A, c, [5, 5, 0], 3, 1⟩ : Pis)] 3 0 = true := rfl
    unfold kAll
    unfold firstFrom
    rw [this]
    rfl
  rw [cycAll_good h, cycS_small h (by rw [hl]; decide), hl, hk]
def diffF : List Msh := [⟨5, 0, 1, 2, 0, 0⟩, ⟨4, 1, 0, 0, 0, 0⟩]
def planetF : List Msh := [⟨6, 0, 1, 2, 8, 24⟩, ⟨4, 1, 0, 0, 0, 0⟩]
theorem ex_open : opE 3 fstL [0] = 2 ∧ opS 3 fstL [0] = 0 ∧ opL 3 fstL [0] = [] := by decide
theorem ex_eq : eqL 3 planetF 0 = [8, 24, -32] ∧ eqE 3 planetF 0 = 0 := by decide
theorem ex_ask : askE 3 diffF [2, 0] = 0 ∧ askE 3 diffF [2, 1] = 0 ∧ askE 3 planetF [0, 2] = 0 ∧ askE 3 fstL [3, 0] = 2 := by decide
theorem ex_rat1 : ratPr (gearL diffF 3) 2 3 2 0 2 1 [1, -1] [2, 0, 1] [] := by decide
theorem ex_rat2 : ratPr (gearL planetF 3) 2 3 0 2 1 4 [-1, 24] [4, 0, 1] [] := by decide
theorem ex_rat3 : ratPr (gearL diffF 3) 2 3 2 1 0 1 [0, 1] [2, 0, 1] [] := by decide
theorem ex_verd : verdE 3 fstL 3 0 = 2 := by
  unfold verdE
  rw [ex_ask.2.2.2, if_neg (by decide)]
theorem ex_check : trainE 3 [⟨1, 0, 0, 0, 8, 8⟩] = 40 ∧ trainE 3 [⟨1, 0, 1, 0, 8, 25⟩] = 40 ∧ trainE 3 fstL = 0 := by decide
theorem ex_free : freeS 3 fstL = 1 := by
  have hL : ∀ i, i < 2 → ∀ j, j < 3 → ((0 : Int)) ∣ gearL fstL 3 i j - S (List.range 2) fun k => (if k = i then 1 else 0) * gearL fstL 3 k j := fun i hi j _ => by
    have : i = 0 ∨ i = 1 := by omega
    rcases this with rfl | rfl
    · rw [show (S (List.range 2) fun k => (if k = 0 then 1 else 0) * gearL fstL 3 k j) = gearL fstL 3 0 j by simp [S_cons, S_nil, List.range_succ]]
      rw [Int.sub_self]
      exact Int.dvd_zero _
    · rw [show (S (List.range 2) fun k => (if k = 1 then 1 else 0) * gearL fstL 3 k j) = gearL fstL 3 1 j by simp [S_cons, S_nil, List.range_succ]]
      rw [Int.sub_self]
      exact Int.dvd_zero _
  have hb : BasisOf 3 2 (gearL fstL 3) (gearL fstL 3) [0, 1] 1 := by
    refine ⟨by simp, fun i hi => ?_, fun i hi => ⟨_, hL i (by simpa using hi)⟩, by decide, fun x hx => ⟨fun k => if k = x then 1 else 0, fun j hj => ?_⟩⟩
    · have : i = 0 ∨ i = 1 := by simp at hi; omega
      rcases this with rfl | rfl
      · refine ⟨show gearL fstL 3 0 0 ≠ 0 by decide, fun x h1 h2 => ?_⟩
        obtain rfl : x = 1 := by simp at h2; omega
        show gearL fstL 3 1 0 = 0
        decide
      · exact ⟨show gearL fstL 3 1 1 ≠ 0 by decide, fun x h1 h2 => by simp at h2; omega⟩
    · show (0 : Int) ∣ 1 * gearL fstL 3 x j - S (List.range 2) fun k => (if k = x then 1 else 0) * gearL fstL 3 k j
      rw [Int.one_mul]
      exact hL x hx j hj
  have h1 : rkF 2 3 (gearL fstL 3) = 2 := hb.rkF
  unfold freeS
  rw [if_pos (by decide)]
  show (3 : Int) - (rkF 2 3 (gearL fstL 3) : Int) = 1
  rw [h1]
  rfl
theorem ex_slip : slipL 3 threeL 0 = [] ∧ slipX 3 threeL 0 = 6 := by
  have ht : trainP 3 threeL := by decide
  have hz : askE 3 threeL [0] = 0 := by decide
  have h0 : jamO threeL 3 0 [] = true := (jam_iff (S := 3) (i := 0) ht (by decide)).2 ⟨_, three_jam⟩
  have hs : slipO threeL 3 0 = none := by
    refine slipO_none' fun k hk => ?_
    obtain rfl : k = 0 := by
      have : (clF threeL 0).length = 0 := by decide
      omega
    unfold slipN
    rw [chooseL_zero, h0]
    rfl
  unfold slipL slipX
  rw [if_pos hz, if_pos hz]
  rw [show slipO threeL (Int.toNat 3) (Int.toNat 0) = none from hs]
  exact ⟨rfl, rfl⟩
end Go.Proofs.Ytbclbcldplmppaa

/- GearExamples: the law's own walk. -/
namespace Go.Proofs.Ytbclbcldplmppaa
open Go.RowKit

/-- A fixed shaft's mesh in the call's own struct. -/
structure FixOk (W : World) (g : Nat) : Prop where
  c0 : W.cell? ⟨g, 0, none⟩ = some (.int .u8 4)
  c1 : W.cell? ⟨g, 1, none⟩ = some (.int .i64 1)
  c2 : W.cell? ⟨g, 2, none⟩ = some (.int .i64 0)
  c3 : W.cell? ⟨g, 3, none⟩ = some (.int .i64 0)
  c4 : W.cell? ⟨g, 4, none⟩ = some (.int .i64 0)
  c5 : W.cell? ⟨g, 5, none⟩ = some (.int .i64 0)
theorem FixOk.ext {W W' : World} {g : Nat} (h : FixOk W g) (he : Ext W W') : FixOk W' g := ⟨he.cell h.c0, he.cell h.c1, he.cell h.c2, he.cell h.c3, he.cell h.c4, he.cell h.c5⟩
theorem FixOk.new {W : World} {g : Nat} (hg : W.heap.size = g) : FixOk (W.alloc (.cells #[.int .u8 4, .int .i64 1, .int .i64 0, .int .i64 0, .int .i64 0, .int .i64 0] 57)) g := by
  subst hg
  exact ⟨cells_last rfl rfl, cells_last rfl rfl, cells_last rfl rfl, cells_last rfl rfl, cells_last rfl rfl, cells_last rfl rfl⟩
theorem ex_prow (w : World) : PRow ((w.alloc (.cells #[.int .i64 5, .int .i64 5, .int .i64 0] 3)).alloc (.cells #[.slice (some ⟨w.heap.size, 0, none⟩) 3 3, .int .i64 3, .int .i64 1] 24)) (some ⟨w.heap.size + 1, 0, none⟩) [⟨some ⟨w.heap.size, 0, none⟩, 3, [5, 5, 0], 3, 1⟩] := by
  refine ⟨fun k hk => ⟨_, rfl, ?_⟩, fun p hp => ?_, by simp⟩
  · have e : (w.alloc (.cells #[.int .i64 5, .int .i64 5, .int .i64 0] 3)).heap.size = w.heap.size + 1 := by simp
    rw [add_zero', ← e, cell_heap (heap_alloc_new _ _)]
    simp [Pis.cells, vint]
  · simp only [List.mem_singleton] at hp
    subst hp
    exact (show Ints _ (some ⟨w.heap.size, 0, none⟩) [5, 5, 0] from row_heap (heap_alloc_new w _)).ext ((Ext.refl _).alloc _)

set_option maxRecDepth 100000 in
set_option maxHeartbeats 8000000 in
theorem examples_law (w : World) : Calls Try.prog 13 #[] w fun e w' => e = .returned (.bool true) ∧ Ext w w' := by
  go_enter Try.func13, Try.ntmps13
  (repeat (first | go_values | go_skip | go_guarded | go_step | go_upon))
  go_at_call 49
  refine (gears_any 0 1 8 8 _).mono ?_
  rintro e w1 ⟨rfl, hx1⟩
  (try simp only [])
  (repeat (first | go_values | go_skip | go_guarded | go_step | go_upon))
  go_at_call 49
  refine (gears_any 1 2 8 8 _).mono ?_
  rintro e w2 ⟨rfl, hx2⟩
  (try simp only [])
  (repeat (first | go_values | go_skip | go_guarded | go_step | go_upon))
  go_at_call 49
  refine (gears_any 0 2 8 8 _).mono ?_
  rintro e w3 ⟨rfl, hx3⟩
  (try simp only [])
  (repeat (first | go_values | go_skip | go_guarded | go_step | go_upon))
  go_at_call 48
  refine (train_any3 _ _ _ _).mono ?_
  rintro e w4 ⟨rfl, hx4⟩
  (try simp only [])
  have hx : Ext w w4 := (((hx1.trans hx2).trans hx3).alloc _).trans hx4
  have hm3 : MRow w4 (some ⟨w3.heap.size, 0, none⟩) threeL := MRow.ext (mrow_lit (ms := threeL) (heap_alloc_new w3 _)) hx4
  clear hx1 hx2 hx3 hx4
  generalize w3.heap.size = g3 at *
  have hT1' : TOk (w4.alloc (.cells #[.int .i64 3, .slice (some ⟨g3, 0, none⟩) 3 3] 41)) w4.heap.size (.int .i64 3) (.slice (some ⟨g3, 0, none⟩) 3 3) := TOk.new
  have hF' : FixOk ((w4.alloc (.cells #[.int .i64 3, .slice (some ⟨g3, 0, none⟩) 3 3] 41)).alloc (.cells #[.int .u8 4, .int .i64 1, .int .i64 0, .int .i64 0, .int .i64 0, .int .i64 0] 57)) (w4.heap.size + 1) := FixOk.new (by simp)
  (repeat (first | go_values | go_skip | go_guarded | go_step | go_upon))
  go_at_call 48
  refine (train_any3 _ _ _ _).mono ?_
  rintro e w5 ⟨rfl, hx5⟩
  (try simp only [])
  have E : Ext w4 w5 := ((((Ext.refl _).alloc _).alloc _).alloc _).trans hx5
  have hT1 := TOk.ext hT1' ((((Ext.refl _).alloc _).alloc _).trans hx5)
  have hF := FixOk.ext hF' (((Ext.refl _).alloc _).trans hx5)
  have hmd := MRow.ext (mrow_lit (ms := diffF) (heap_alloc_new ((w4.alloc (.cells #[.int .i64 3, .slice (some ⟨g3, 0, none⟩) 3 3] 41)).alloc (.cells #[.int .u8 4, .int .i64 1, .int .i64 0, .int .i64 0, .int .i64 0, .int .i64 0] 57)) _)) hx5
  rw [show ((w4.alloc (.cells #[.int .i64 3, .slice (some ⟨g3, 0, none⟩) 3 3] 41)).alloc (.cells #[.int .u8 4, .int .i64 1, .int .i64 0, .int .i64 0, .int .i64 0, .int .i64 0] 57)).heap.size = w4.heap.size + 1 + 1 by simp] at hmd
  have hm3 := hm3.ext E
  have hx := hx.trans E
  clear hx5 E hT1' hF'
  generalize w4.heap.size + 1 + 1 = gd at *
  generalize w4.heap.size + 1 = gf at *
  generalize w4.heap.size = g1 at *
  have f0 := Ext.cells hF.c0
  have f1 := Ext.cells hF.c1
  have f2 := Ext.cells hF.c2
  have f3 := Ext.cells hF.c3
  have f4 := Ext.cells hF.c4
  have f5 := Ext.cells hF.c5
  (repeat (first | go_values | go_skip | go_guarded | go_step | go_upon))
  go_at_call 48
  refine (train_any3 _ _ _ _).mono ?_
  rintro e w6 ⟨rfl, hx6⟩
  (try simp only [])
  have E : Ext w5 w6 := (((Ext.refl _).alloc _).alloc _).trans hx6
  have hT3 := TOk.ext (TOk.new (W := w5) (u0 := .int .i64 3) (u1 := .slice (some ⟨gd, 0, none⟩) 2 2)) (((Ext.refl _).alloc _).trans hx6)
  have hmp := MRow.ext (mrow_lit (ms := planetF) (heap_alloc_new (w5.alloc (.cells #[.int .i64 3, .slice (some ⟨gd, 0, none⟩) 2 2] 41)) _)) hx6
  rw [show (w5.alloc (.cells #[.int .i64 3, .slice (some ⟨gd, 0, none⟩) 2 2] 41)).heap.size = w5.heap.size + 1 by simp] at hmp
  have hT1 := hT1.ext E
  have hm3 := hm3.ext E
  have hmd := hmd.ext E
  have hx := hx.trans E
  clear hx6 E f0 f1 f2 f3 f4 f5 hF
  generalize w5.heap.size + 1 = gp at *
  generalize w5.heap.size = g5 at *
  (repeat (first | go_values | go_skip | go_guarded | go_step | go_upon))
  go_at_call 50
  refine (first_any none 0 [] _ (Row.nil _ _) (by decide)).mono ?_
  rintro e w7 ⟨h7, c7, rfl, hx7, hm7⟩
  (try simp only [])
  (repeat (first | go_values | go_skip | go_guarded | go_step | go_upon))
  go_at_call 26
  refine (free_any (some ⟨h7, 0, none⟩) c7 3 fstL _ hm7 (by decide)).mono ?_
  rintro e w8 ⟨rfl, hx8⟩
  (try simp only [])
  have hT4 := TOk.ext (TOk.new (W := w6) (u0 := .int .i64 3) (u1 := .slice (some ⟨gp, 0, none⟩) 2 2)) (hx7.trans hx8)
  have E := ((Ext.refl _).alloc _).trans (hx7.trans hx8)
  have hT1 := hT1.ext E
  have hT3 := hT3.ext E
  have hm3 := hm3.ext E
  have hmd := hmd.ext E
  have hmp := hmp.ext E
  have hx := hx.trans E
  clear hx7 hx8 E hm7
  generalize w6.heap.size = g6 at *
  rw [ex_free, ex_check.2.2]
  have t10 := Ext.cells hT1.c0
  have t11 := Ext.cells hT1.c1
  (repeat (first | go_values | go_skip | go_guarded | go_step | go_upon))
  go_at_call 31
  refine (slips_any (some ⟨g3, 0, none⟩) 3 3 threeL 0 _ hm3 (by decide)).mono ?_
  rintro e w9 ⟨A9, d9, rfl, hi9, hx9⟩
  (try simp only [])
  rw [ex_slip.1, ex_slip.2]
  have E := hx9
  have hT3 := hT3.ext E
  have hT4 := hT4.ext E
  have hmd := hmd.ext E
  have hmp := hmp.ext E
  have hx := hx.trans E
  clear hx9 E hi9 hm3 t10 t11 hT1
  (repeat (first | go_values | go_skip | go_guarded | go_step | go_upon))
  go_at_call 19
  refine (cycle_any (some ⟨w9.heap.size + 1, 0, none⟩) 1 [⟨some ⟨w9.heap.size, 0, none⟩, 3, [5, 5, 0], 3, 1⟩] _ (ex_prow w9) (by simp) (by simp)).mono ?_
  rintro e w10 ⟨rfl, hx10⟩
  (try simp only [])
  rw [ex_cycle]
  have E := (((Ext.refl _).alloc _).alloc _).trans hx10
  have hT3 := hT3.ext E
  have hT4 := hT4.ext E
  have hmd := hmd.ext E
  have hmp := hmp.ext E
  have hx := hx.trans E
  clear hx10 E
  (repeat (first | go_values | go_skip | go_guarded | go_step | go_upon))
  go_at_call 50
  refine (first_any none 0 [] _ (Row.nil _ _) (by decide)).mono ?_
  rintro e w11 ⟨h11, c11, rfl, hx11, hm11⟩
  (try simp only [])
  (repeat (first | go_values | go_skip | go_guarded | go_step | go_upon))
  go_at_call 34
  refine (ratio_any (some ⟨h11, 0, none⟩) c11 3 3 0 fstL _ hm11 (by decide)).mono ?_
  rintro e w12 hr12
  (try simp only [])
  obtain ⟨rn, rd, B1, B2, B3, d1, d2, d3, F, M, T, rfl, _, _, _, hx12, _⟩ := hr12
  simp only []
  rw [ex_verd]
  generalize F.length = r1
  generalize M.length = r2
  generalize T.length = r3
  have E := hx11.trans hx12
  have hT3 := hT3.ext E
  have hT4 := hT4.ext E
  have hmd := hmd.ext E
  have hmp := hmp.ext E
  have hx := hx.trans E
  clear hx11 hx12 E hm11
  (repeat (first | go_values | go_skip | go_guarded | go_step | go_upon))
  go_at_call 50
  refine (first_any none 0 [] _ (Row.nil _ _) (by decide)).mono ?_
  rintro e w13 ⟨h13, c13, rfl, hx13, hm13⟩
  (try simp only [])
  (repeat (first | go_values | go_skip | go_guarded | go_step | go_upon))
  go_at_call 28
  refine (open_train (some ⟨h13, 0, none⟩) c13 3 fstL (some ⟨w13.heap.size, 0, none⟩) 1 [0] _ (hm13.ext ((Ext.refl _).alloc _)) (row_heap (heap_alloc_new w13 _)) (by decide) (by decide)).mono ?_
  rintro e w14 ⟨v14, rfl, hown⟩
  (try simp only [])
  have hx14 := hown.ext
  rw [ex_open.1, ex_open.2.1]
  obtain ⟨A14, c14, rfl⟩ := hown.form
  rw [ex_open.2.2]
  have E := (((Ext.refl w12).alloc (.cells #[.slice B1 r1 d1, .slice B2 r2 d2, .slice B3 r3 d3] 60)).trans hx13).trans (((Ext.refl _).alloc _).trans hx14)
  have hT3 := hT3.ext E
  have hT4 := hT4.ext E
  have hmd := hmd.ext E
  have hmp := hmp.ext E
  have hx := hx.trans E
  clear hx13 hx14 E hm13 hown
  have t40 := Ext.cells hT4.c0
  have t41 := Ext.cells hT4.c1
  (repeat (first | go_values | go_skip | go_guarded | go_step | go_upon))
  go_at_call 22
  refine (equation_train (some ⟨gp, 0, none⟩) 2 3 planetF 0 _ (hmp.ext ((Ext.refl _).alloc _)) (by decide)).mono ?_
  rintro e w15 ⟨A15, d15, rfl, hi15, hx15⟩
  (try simp only [])
  rw [ex_eq.1] at hi15
  rw [ex_eq.1, ex_eq.2]
  have E := ((Ext.refl _).alloc _).trans hx15
  have hT3 := hT3.ext E
  have hT4 := hT4.ext E
  have hmd := hmd.ext E
  have hmp := hmp.ext E
  have hx := hx.trans E
  clear hx15 E t40 t41
  (repeat (first | go_values | go_skip | go_guarded | go_step | go_upon))
  go_at_call 19
  refine (cycle_many none 0 0 _ (by decide)).mono ?_
  rintro e w16 ⟨rfl, hx16⟩
  (try simp only [])
  (repeat (first | go_values | go_skip | go_guarded | go_step | go_upon))
  go_at_call 43
  refine (alive_any _).mono ?_
  rintro e w17 ⟨rfl, hx17⟩
  (try simp only [])
  have E := hx16.trans hx17
  have hT3 := hT3.ext E
  have hT4 := hT4.ext E
  have hmd := hmd.ext E
  have hmp := hmp.ext E
  have hi15 := hi15.ext E
  have hx := hx.trans E
  clear hx16 hx17 E
  have t30 := Ext.cells hT3.c0
  have t31 := Ext.cells hT3.c1
  (repeat (first | go_values | go_skip | go_guarded | go_step | go_upon))
  go_at_call 51
  refine (is_any (some ⟨gd, 0, none⟩) 2 3 2 0 2 1 diffF _ hmd (by decide) ex_ask.1 ex_rat1).mono ?_
  rintro e w18 ⟨rfl, hx18⟩
  (try simp only [])
  have E := hx18
  have hT3 := hT3.ext E
  have hT4 := hT4.ext E
  have hmd := hmd.ext E
  have hmp := hmp.ext E
  have hi15 := hi15.ext E
  have hx := hx.trans E
  clear hx18 E t30 t31
  have t40 := Ext.cells hT4.c0
  have t41 := Ext.cells hT4.c1
  (repeat (first | go_values | go_skip | go_guarded | go_step | go_upon))
  go_at_call 51
  refine (is_any (some ⟨gp, 0, none⟩) 2 3 0 2 1 4 planetF _ hmp (by decide) ex_ask.2.2.1 ex_rat2).mono ?_
  rintro e w19 ⟨rfl, hx19⟩
  (try simp only [])
  have E := hx19
  have hT3 := hT3.ext E
  have hmd := hmd.ext E
  have hi15 := hi15.ext E
  have hx := hx.trans E
  clear hx19 E t40 t41 hT4 hmp
  have t30 := Ext.cells hT3.c0
  have t31 := Ext.cells hT3.c1
  (repeat (first | go_values | go_skip | go_guarded | go_step | go_upon))
  go_at_call 51
  refine (is_any (some ⟨gd, 0, none⟩) 2 3 2 1 0 1 diffF _ hmd (by decide) ex_ask.2.1 ex_rat3).mono ?_
  rintro e w20 ⟨rfl, hx20⟩
  (try simp only [])
  have E := hx20
  have hi15 := hi15.ext E
  have hx := hx.trans E
  clear hx20 E t30 t31 hT3 hmd
  (repeat (first | go_values | go_skip | go_guarded | go_step | go_upon))
  go_at_call 16
  refine (same_ints A15 (some ⟨w20.heap.size, 0, none⟩) d15 3 [8, 24, -32] [8, 24, -32] _ (hi15.ext ((Ext.refl _).alloc _)) (row_heap (heap_alloc_new w20 _)) (by decide)).mono ?_
  rintro e w21 ⟨rfl, hx21⟩
  (try simp only [])
  have hx : Ext w w21 := hx.trans (((Ext.refl _).alloc _).trans hx21)
  clear hx21 hi15
  rw [show sameB [8, 24, -32] [8, 24, -32] = true from decide_eq_true rfl]
  (repeat (first | go_values | go_skip | go_guarded | go_step | go_upon))
  go_at_call 49
  refine (gears_any 0 0 8 8 _).mono ?_
  rintro e w22 ⟨rfl, hx22⟩
  (try simp only [])
  (repeat (first | go_values | go_skip | go_guarded | go_step | go_upon))
  go_at_call 48
  refine (train_any3 _ _ _ _).mono ?_
  rintro e w23 ⟨rfl, hx23⟩
  (try simp only [])
  have hm23 : MRow w23 (some ⟨w22.heap.size, 0, none⟩) [⟨1, 0, 0, 0, 8, 8⟩] := MRow.ext (mrow_lit (heap_alloc_new w22 _)) hx23
  (repeat (first | go_values | go_skip | go_guarded | go_step | go_upon))
  go_at_call 24
  refine (check_any (some ⟨w22.heap.size, 0, none⟩) 1 3 [⟨1, 0, 0, 0, 8, 8⟩] _ hm23 (by decide)).mono ?_
  rintro e w24 ⟨rfl, hx24⟩
  (try simp only [])
  have hx : Ext w w24 := hx.trans ((hx22.alloc _).trans (hx23.trans hx24))
  clear hx22 hx23 hx24 hm23
  rw [ex_check.1]
  (repeat (first | go_values | go_skip | go_guarded | go_step | go_upon))
  go_at_call 49
  refine (gears_any 0 1 8 25 _).mono ?_
  rintro e w25 ⟨rfl, hx25⟩
  (try simp only [])
  (repeat (first | go_values | go_skip | go_guarded | go_step | go_upon))
  go_at_call 48
  refine (train_any3 _ _ _ _).mono ?_
  rintro e w26 ⟨rfl, hx26⟩
  (try simp only [])
  have hm26 : MRow w26 (some ⟨w25.heap.size, 0, none⟩) [⟨1, 0, 1, 0, 8, 25⟩] := MRow.ext (mrow_lit (heap_alloc_new w25 _)) hx26
  (repeat (first | go_values | go_skip | go_guarded | go_step | go_upon))
  go_at_call 24
  refine (check_any (some ⟨w25.heap.size, 0, none⟩) 1 3 [⟨1, 0, 1, 0, 8, 25⟩] _ hm26 (by decide)).mono ?_
  rintro e w27 ⟨rfl, hx27⟩
  (try simp only [])
  have hx : Ext w w27 := hx.trans ((hx25.alloc _).trans (hx26.trans hx27))
  clear hx25 hx26 hx27 hm26
  rw [ex_check.2.1]
  (repeat (first | go_values | go_skip | go_guarded | go_step | go_upon))
  go_ret
  exact ⟨rfl, hx⟩
end Go.Proofs.Ytbclbcldplmppaa
