/- GearChain: the greatest common divisor of the law; plain laws of ratios. -/
import Derived.Test.YtbclbcldplmppaaMw01
namespace Go.Proofs.Ytbclbcldplmppaa
open Go.RowKit

set_option maxHeartbeats 1000000 in
theorem common_any (a b : Int) (w : World) (ha1 : -9223372036854775807 ≤ a) (ha2 : a ≤ 9223372036854775807) (hb1 : 0 ≤ b) (hb2 : b ≤ 9223372036854775807) :
    Calls Try.prog 46 #[.int .i64 a, .int .i64 b] w fun e w' => e = .returned (.int .i64 (Int.gcd a b : Int)) ∧ Ext w w' := by
  have hs : 0 ≤ (if a < -a then -a else a) ∧ (if a < -a then -a else a) ≤ 9223372036854775807 ∧ Int.gcd (if a < -a then -a else a) b = Int.gcd a b := by
    refine ⟨by split <;> omega, by split <;> omega, ?_⟩
    split
    · exact Int.neg_gcd
    · rfl
  go_enter Try.func46, Try.ntmps46
  (repeat (first | go_values | go_skip | go_guarded | go_step | go_upon))
  generalize (if a < -a then -a else a) = x0 at *
  obtain ⟨hx1, hx2, hx3⟩ := hs
  have Hx3 := Lib.hid hx3
  clear hx3
  go_loopw [0, 1] (fun u v wr => ∃ x y : Int, u = .int .i64 x ∧ v = .int .i64 y ∧ Ext w wr ∧ Int.gcd x y = Int.gcd a b ∧ 0 ≤ x ∧ x ≤ 9223372036854775807 ∧ 0 ≤ y ∧ y ≤ 9223372036854775807) (fun u _ _ => (intOf u).natAbs)
  case atStart => exact ⟨x0, b, rfl, rfl, Ext.refl _, Hx3.out, hx1, hx2, hb1, hb2⟩
  case round =>
    clear Hx3
    obtain ⟨x, y, rfl, rfl, hex, hg, h1, h2, h3, h4⟩ := hrel
    have Hg := Lib.hid hg
    clear hg
    by_cases hx : x = 0
    · subst hx
      go_wp2
      go_ret
      refine ⟨ret_i ?_, hex⟩
      rw [← Hg.out]
      show y = ((Nat.gcd 0 y.natAbs : Nat) : Int)
      rw [Nat.gcd_zero_left]
      omega
    · have hx' : (x == 0) = false := beq_eq_false_iff_ne.2 hx
      have hab : (y.tmod x).natAbs < x.natAbs := by rw [Int.natAbs_tmod]; exact Nat.mod_lt _ (by omega)
      have h0 : 0 ≤ y.tmod x := Int.tmod_nonneg _ h3
      have hg2 : Int.gcd (y.tmod x) x = Int.gcd x y := by rw [Int.gcd_comm, gcd_tmod, Int.gcd_comm]
      have hem : y.tmod x = y % x := Int.tmod_eq_emod_of_nonneg h3
      rw [hem] at hab h0 hg2
      have Hg2 := Lib.hid hg2
      have Hab := Lib.hid hab
      clear hg2 hem
      go_wp2
      go_roundw
      case rel => exact ⟨y % x, x, rfl, rfl, hex, Hg2.out.trans Hg.out, by omega, by omega, by omega, by omega⟩
      case measure => exact Hab.out
end Go.Proofs.Ytbclbcldplmppaa

/- Ratios multiply, and are inverted. Plain Lean. -/
namespace Go.Proofs.Ytbclbcldplmppaa

theorem gcd_split {a b : Int} (hb : 1 ≤ b) : ∃ a1 b1, a = (Int.gcd a b : Int) * a1 ∧ b = (Int.gcd a b : Int) * b1 ∧ Int.gcd a1 b1 = 1 ∧ 1 ≤ (Int.gcd a b : Int) ∧ 1 ≤ b1 := by
  have hg0 : Int.gcd a b ≠ 0 := fun e => by have := (Int.gcd_eq_zero_iff.1 e).2; omega
  obtain ⟨u, hu⟩ := Int.gcd_dvd_left a b
  obtain ⟨v, hv⟩ := Int.gcd_dvd_right a b
  have hgp : 1 ≤ (Int.gcd a b : Int) := by omega
  refine ⟨u, v, hu, hv, ?_, hgp, ?_⟩
  · generalize hgg : (Int.gcd a b : Int) = g at *
    have h1 : Int.gcd (g * u) (g * v) = g.natAbs * Int.gcd u v := Int.gcd_mul_left g u v
    rw [← hu, ← hv] at h1
    have h2 : (Int.gcd a b) = g.natAbs := by omega
    rw [h2] at h1
    have h3 : 0 < g.natAbs := by omega
    have h4 : g.natAbs * 1 = g.natAbs * Int.gcd u v := by omega
    exact (Nat.eq_of_mul_eq_mul_left h3 h4).symm
  · have h : 0 < (Int.gcd a b : Int) * v := by rw [← hv]; omega
    have := Int.pos_of_mul_pos_right h (by omega)
    omega
theorem cop_mul {a b c d : Int} (h1 : Int.gcd a c = 1) (h2 : Int.gcd a d = 1) (h3 : Int.gcd b c = 1) (h4 : Int.gcd b d = 1) : Int.gcd (a * b) (c * d) = 1 := by
  show Nat.gcd (a * b).natAbs (c * d).natAbs = 1
  rw [Int.natAbs_mul, Int.natAbs_mul]
  have k1 : Nat.Coprime a.natAbs c.natAbs := h1
  have k2 : Nat.Coprime a.natAbs d.natAbs := h2
  have k3 : Nat.Coprime b.natAbs c.natAbs := h3
  have k4 : Nat.Coprime b.natAbs d.natAbs := h4
  exact Nat.Coprime.mul_left (Nat.Coprime.mul_right k1 k2) (Nat.Coprime.mul_right k3 k4)
theorem cop_dvd {a b a1 b1 : Int} (h : Int.gcd a b = 1) (ha : a1 ∣ a) (hb : b1 ∣ b) : Int.gcd a1 b1 = 1 := by
  have h1 : Nat.Coprime a.natAbs b.natAbs := h
  exact Nat.Coprime.coprime_dvd_left (Int.natAbs_dvd_natAbs.2 ha) (Nat.Coprime.coprime_dvd_right (Int.natAbs_dvd_natAbs.2 hb) h1)

section
variable {L : Nat → Nat → Int} {m n a b c : Nat} {F M T F' M' T' F'' M'' T'' : List Int}
/-- The factors of two ratios that follow each other, without what they share. -/
theorem ratPr.chain {p q r s x y : Int} (h1 : ratPr L m n a b p q F M T) (h2 : ratPr L m n b c r s F' M' T') (h3 : ratPr L m n a c x y F'' M'' T'') (ha : a < n) (hb : b < n) (hc : c < n) :
    p.tdiv (Int.gcd p s) * r.tdiv (Int.gcd r q) = x ∧ q.tdiv (Int.gcd r q) * s.tdiv (Int.gcd p s) = y := by
  have hM := h1.2.2.1.2
  have hpos := h1.2.2.2.1
  have t1 := h1.turns ha hb hM
  have t2 := h2.turns hb hc hM
  have t3 := h3.turns ha hc hM
  have q1 := h1.2.2.2.2.1
  have s1 := h2.2.2.2.2.1
  have y1 := h3.2.2.2.2.1
  have g1 := h1.2.2.2.2.2.1
  have g2 := h2.2.2.2.2.2.1
  have g3 := h3.2.2.2.2.2.1
  generalize getI M a = A at *
  generalize getI M b = B at *
  generalize getI M c = C at *
  have hk : x * (q * s) = p * r * y := by
    have e : A * (x * (q * s)) = A * (p * r * y) := by
      calc A * (x * (q * s)) = (A * x) * (q * s) := by rw [Int.mul_assoc]
        _ = (C * y) * (q * s) := by rw [t3]
        _ = (C * s) * (q * y) := by rw [Int.mul_assoc, Int.mul_assoc, Int.mul_left_comm y q s, Int.mul_left_comm s q y, Int.mul_comm y s]
        _ = (B * r) * (q * y) := by rw [t2]
        _ = (B * q) * (r * y) := by rw [Int.mul_assoc, Int.mul_assoc, Int.mul_left_comm r q y]
        _ = (A * p) * (r * y) := by rw [t1]
        _ = A * (p * r * y) := by rw [Int.mul_assoc, Int.mul_assoc]
    exact Int.eq_of_mul_eq_mul_left (by omega) e
  obtain ⟨p1, s1', ep, es, hps, hu, hs1⟩ := gcd_split (a := p) s1
  obtain ⟨r1, q1', er, eq, hrq, hv, hq1⟩ := gcd_split (a := r) q1
  generalize (Int.gcd p s : Int) = u at *
  generalize (Int.gcd r q : Int) = v at *
  have d1 : p.tdiv u = p1 := by rw [ep, Int.mul_comm]; exact Int.mul_tdiv_cancel _ (by omega)
  have d2 : s.tdiv u = s1' := by rw [es, Int.mul_comm]; exact Int.mul_tdiv_cancel _ (by omega)
  have d3 : r.tdiv v = r1 := by rw [er, Int.mul_comm]; exact Int.mul_tdiv_cancel _ (by omega)
  have d4 : q.tdiv v = q1' := by rw [eq, Int.mul_comm]; exact Int.mul_tdiv_cancel _ (by omega)
  rw [d1, d2, d3, d4]
  have k1 : Int.gcd p1 q1' = 1 := cop_dvd g1 ⟨u, by rw [Int.mul_comm]; exact ep⟩ ⟨v, by rw [Int.mul_comm]; exact eq⟩
  have k2 : Int.gcd r1 s1' = 1 := cop_dvd g2 ⟨v, by rw [Int.mul_comm]; exact er⟩ ⟨u, by rw [Int.mul_comm]; exact es⟩
  have hcop : Int.gcd (p1 * r1) (q1' * s1') = 1 := cop_mul k1 hps hrq k2
  have hk2 : (p1 * r1) * y = x * (q1' * s1') := by
    have e : (u * v) * ((p1 * r1) * y) = (u * v) * (x * (q1' * s1')) := by
      have e1 : p * r = (u * v) * (p1 * r1) := by rw [ep, er]; exact mul4 _ _ _ _
      have e2 : q * s = (u * v) * (q1' * s1') := by
        rw [eq, es, mul4, Int.mul_comm v u]
      rw [e1, e2] at hk
      rw [← Int.mul_assoc, ← hk, Int.mul_left_comm]
    exact Int.eq_of_mul_eq_mul_left (fun h => by
      rcases Int.mul_eq_zero.1 h with h | h <;> omega) e
  have hqs : 1 ≤ q1' * s1' := by
    have := Int.mul_pos (show 0 < q1' by omega) (show 0 < s1' by omega)
    omega
  exact lowest_eq hqs y1 hcop g3 hk2
theorem ratPr.inverse {p q i j : Int} (h1 : ratPr L m n a b p q F M T) (h2 : ratPr L m n b a i j F' M' T') (ha : a < n) (hb : b < n) : (0 < p → i = q ∧ j = p) ∧ (p < 0 → i = -q ∧ j = -p) := by
  have hM := h1.2.2.1.2
  have hpos := h1.2.2.2.1
  have t1 := h1.turns ha hb hM
  have t2 := h2.turns hb ha hM
  have q1 := h1.2.2.2.2.1
  have j1 := h2.2.2.2.2.1
  have g1 := h1.2.2.2.2.2.1
  have g2 := h2.2.2.2.2.2.1
  generalize getI M a = A at *
  generalize getI M b = B at *
  have hk : i * p = q * j := by
    have e : A * (i * p) = A * (q * j) := by
      calc A * (i * p) = (A * p) * i := by rw [Int.mul_assoc, Int.mul_comm i p]
        _ = (B * q) * i := by rw [t1]
        _ = (B * i) * q := by rw [Int.mul_assoc, Int.mul_comm q i, Int.mul_assoc]
        _ = (A * j) * q := by rw [t2]
        _ = A * (q * j) := by rw [Int.mul_assoc, Int.mul_comm j q]
    exact Int.eq_of_mul_eq_mul_left (by omega) e
  have g1' : Int.gcd q p = 1 := by rw [Int.gcd_comm]; exact g1
  constructor
  · intro h
    exact lowest_eq j1 (by omega) g2 g1' hk
  · intro h
    refine lowest_eq (c := -q) (d := -p) j1 (by omega) g2 ?_ ?_
    · rw [Int.neg_gcd, Int.gcd_neg]; exact g1'
    · rw [Int.mul_neg, hk, Int.neg_mul]
theorem ratPr.no_loose {p q r s : Int} (h1 : ratPr L m n a b p q F M T) (h2 : ratPr L m n b c r s F' M' T') (ha : a < n) (hb : b < n) (hc : c < n) (h : loosePr L m n a c F'' M'' T'') : False := by
  obtain ⟨_, _, ⟨_, hT⟩, _, h0, hp⟩ := h
  have t1 := h1.turns ha hb hT
  have t2 := h2.turns hb hc hT
  have q1 := h1.2.2.2.2.1
  have s1 := h2.2.2.2.2.1
  rw [h0, Int.zero_mul] at t1
  have hB : getI T'' b = 0 := by rcases Int.mul_eq_zero.1 t1 with h | h <;> omega
  rw [hB, Int.zero_mul] at t2
  rcases Int.mul_eq_zero.1 t2 with h | h <;> omega
end
end Go.Proofs.Ytbclbcldplmppaa

/- GearChain: the law's own walk. -/
namespace Go.Proofs.Ytbclbcldplmppaa
open Go.RowKit

/-- What is known of a ratio's two numbers. -/
def RF (s : Int) (ms : List Msh) (i o num den : Int) : Prop := ∃ F M T, ratOk s ms i o num den (verdE s ms i o) F M T
theorem ratio_rf (A : Option Addr) (c : Nat) (s i o : Int) (ms : List Msh) (w : World) (hA : MRow w A ms) (hl : ms.length ≤ 1000000) : ∃ num den, RF s ms i o num den ∧ ∀ w', Ext w w' → Calls Try.prog 34 #[.agg #[.int .i64 s, .slice A ms.length c], .int .i64 i, .int .i64 o] w' fun e w'' => ∃ (B1 B2 B3 : Option Addr) (r1 d1 r2 d2 r3 d3 : Nat), e = .returned (.tuple #[.int .i64 num, .int .i64 den, .agg #[.slice B1 r1 d1, .slice B2 r2 d2, .slice B3 r3 d3], .int .i64 (verdE s ms i o)]) ∧ Ext w' w'' := by
  by_cases hz : askE s ms [i, o] = 0
  · obtain ⟨S, I, O, rfl, rfl, rfl, hi, ho, ht⟩ := ask_two hz
    obtain ⟨num, den, F, M, T, h⟩ := ok_exists ht hi ho
    refine ⟨num, den, ⟨F, M, T, h⟩, fun w' he => (ratio_any A c S I O ms w' (hA.ext he) hl).mono fun e w'' h' => ?_⟩
    obtain ⟨rn, rd, B1, B2, B3, d1, d2, d3, F', M', T', h0, _, _, _, hx, hok⟩ := h'
    have hsame : rn = num ∧ rd = den := by
      rcases h with ⟨h, _⟩ | ⟨_, ⟨_, h1, h2, h⟩ | ⟨_, h1, h2, h⟩ | ⟨_, h⟩⟩
      · exact absurd hz h
      · obtain ⟨_, k1, k2, _⟩ := hok.of_jam hz h; omega
      · obtain ⟨_, k1, k2, _⟩ := hok.of_loose hz h; omega
      · obtain ⟨_, k1, k2, _⟩ := hok.of_rat hz h; exact ⟨k1, k2⟩
    obtain ⟨rfl, rfl⟩ := hsame
    exact ⟨B1, B2, B3, _, d1, _, d2, _, d3, h0, hx⟩
  · refine ⟨0, 0, ⟨[], [], [], .inl ⟨hz, rfl, rfl, rfl, rfl, rfl⟩⟩, fun w' he => (ratio_any A c s i o ms w' (hA.ext he) hl).mono fun e w'' h' => ?_⟩
    obtain ⟨rn, rd, B1, B2, B3, d1, d2, d3, F', M', T', h0, _, _, _, hx, hok⟩ := h'
    rcases hok with ⟨_, rfl, rfl, _⟩ | ⟨h, _⟩
    · exact ⟨B1, B2, B3, _, d1, _, d2, _, d3, h0, hx⟩
    · exact absurd h hz
theorem verdE_zero {s : Int} {ms : List Msh} {i o : Int} (h : verdE s ms i o = 0) : askE s ms [i, o] = 0 := by
  refine Classical.byContradiction fun hz => ?_
  unfold verdE at h
  rw [if_neg hz] at h
  exact hz h
theorem RF.rat {s : Int} {ms : List Msh} {i o num den : Int} (h : RF s ms i o num den) (hv : verdE s ms i o = 0) : askE s ms [i, o] = 0 ∧ ∃ F M T, ratPr (gearL ms s.toNat) ms.length s.toNat i.toNat o.toNat num den F M T := by
  have hz := verdE_zero hv
  obtain ⟨F, M, T, h⟩ := h
  rcases h with ⟨h, _⟩ | ⟨_, ⟨h1, _⟩ | ⟨h1, _⟩ | ⟨_, h⟩⟩
  · exact absurd hz h
  · omega
  · omega
  · exact ⟨hz, F, M, T, h⟩
theorem RF.same {s : Int} {ms : List Msh} {i num den : Int} (h : RF s ms i i num den) : (verdE s ms i i = 0 → num = 1 ∧ den = 1) ∧ ¬ verdE s ms i i = 42 := by
  constructor
  · intro hv
    obtain ⟨_, F, M, T, hp⟩ := h.rat hv
    have := hp.2.2.2.2.2.2
    rw [if_pos rfl] at this
    exact this.2
  · intro hv
    obtain ⟨F, M, T, h⟩ := h
    rcases h with ⟨h, _⟩ | ⟨_, ⟨h1, _⟩ | ⟨_, _, _, h⟩ | ⟨h1, _⟩⟩
    · unfold verdE at hv
      rw [if_neg h] at hv
      rcases askE_cases s ms [i, i] with k | k | k <;> omega
    · omega
    · obtain ⟨_, _, _, _, k1, k2⟩ := h
      omega
    · omega

set_option maxRecDepth 100000 in
set_option maxHeartbeats 8000000 in
theorem chain_law (A : Option Addr) (c : Nat) (s : Int) (ms : List Msh) (a b d : Int) (w : World) (hA : MRow w A ms) :
    Calls Try.prog 7 #[.agg #[.int .i64 s, .slice A ms.length c], .int .i64 a, .int .i64 b, .int .i64 d] w fun e w' => e = .returned (.bool true) ∧ Ext w w' := by
  have hg := fun (w' : World) => great_any A c ms.length s w'
  by_cases g1 : 30 < ms.length
  · have e1 : decide ((30 : Int) < (ms.length : Int)) = true := by simp; omega
    rw [e1] at hg
    have Hg := Lib.hid hg
    clear hg hA e1
    generalize ms.length = m at *
    go_enter Try.func7, Try.ntmps7
    have t0 : ∀ w', Ext (w.alloc (.cells #[.int .i64 s, .slice A m c] 41)) w' → w'.cell? ⟨w.heap.size, 0, none⟩ = some (.int .i64 s) := fun w' he => he.cell (cells_last rfl rfl)
    have t1 : ∀ w', Ext (w.alloc (.cells #[.int .i64 s, .slice A m c] 41)) w' → w'.cell? ⟨w.heap.size, 1, none⟩ = some (.slice A m c) := fun w' he => he.cell (cells_last rfl rfl)
    have hxb : Ext w (w.alloc (.cells #[.int .i64 s, .slice A m c] 41)) := (Ext.refl w).alloc _
    (repeat (first
      | (go_at_call 43; refine (alive_any _).mono ?_; rintro e w1 ⟨rfl, hx1⟩; have b1 := hx1; simp only [])
      | (go_at_call 21; refine (Hg.out _).mono ?_; rintro e w2 ⟨rfl, hx2⟩; have b2 := b1.trans hx2; simp only [])
      | go_values | go_skip | go_guarded | go_step | go_upon))
    go_ret
    exact ⟨rfl, hxb.trans b2⟩
  have e1 : decide ((30 : Int) < (ms.length : Int)) = false := by simp; omega
  rw [e1] at hg
  have Hg := Lib.hid hg
  clear hg e1
  have hl : ms.length ≤ 1000000 := by omega
  obtain ⟨nab, mab, fab, cab⟩ := ratio_rf A c s a b ms w hA hl
  obtain ⟨pbc, qbc, fbc, cbc⟩ := ratio_rf A c s b d ms w hA hl
  obtain ⟨xac, yac, fac, cac⟩ := ratio_rf A c s a d ms w hA hl
  obtain ⟨one, two, faa, caa⟩ := ratio_rf A c s a a ms w hA hl
  obtain ⟨iba, jba, fba, cba⟩ := ratio_rf A c s b a ms w hA hl
  have haa := faa.same
  have Cab := Lib.hid cab
  have Cbc := Lib.hid cbc
  have Cac := Lib.hid cac
  have Caa := Lib.hid caa
  have Cba := Lib.hid cba
  clear cab cbc cac caa cba hA g1 hl
  by_cases hef : verdE s ms a b = 0 ∧ verdE s ms b d = 0
  · obtain ⟨he, hf⟩ := hef
    obtain ⟨hz1, F1, M1, T1, h1⟩ := fab.rat he
    obtain ⟨hz2, F2, M2, T2, h2⟩ := fbc.rat hf
    obtain ⟨S, I, O, rfl, rfl, rfl, hi, ho, ht⟩ := ask_two hz1
    obtain ⟨S', O', U, eS, eO, rfl, hO', hu, ht'⟩ := ask_two hz2
    obtain rfl : S = S' := by omega
    clear eS eO hO' ht'
    have hzac : askE S ms [(I : Int), (U : Int)] = 0 := askE_ok (decide_eq_true ht) (by simp; omega)
    have hzaa : askE S ms [(I : Int), (I : Int)] = 0 := askE_ok (decide_eq_true ht) (by simp; omega)
    simp only [Int.toNat_natCast] at h1 h2
    have hvac : verdE S ms I U = 0 := by
      obtain ⟨F, M, T, h⟩ := fac
      rcases h with ⟨h, _⟩ | ⟨_, ⟨_, _, _, h⟩ | ⟨_, _, _, h⟩ | ⟨h, _⟩⟩
      · exact absurd hzac h
      · exact (jam_no_ratio h (by simpa using h1) (by simpa using hi)).elim
      · exact (h1.no_loose h2 hi ho hu (by simpa using h)).elim
      · exact h
    have hvaa : verdE S ms I I = 0 := by
      obtain ⟨F, M, T, h⟩ := faa
      rcases h with ⟨h, _⟩ | ⟨_, ⟨_, _, _, h⟩ | ⟨h, _⟩ | ⟨h, _⟩⟩
      · exact absurd hzaa h
      · exact (jam_no_ratio h (by simpa using h1) (by simpa using hi)).elim
      · exact absurd h haa.2
      · exact h
    obtain ⟨rfl, rfl⟩ := haa.1 hvaa
    obtain ⟨_, F3, M3, T3, h3⟩ := fac.rat hvac
    simp only [Int.toNat_natCast] at h3
    obtain ⟨hch1, hch2⟩ := h1.chain h2 h3 hi ho hu
    obtain ⟨fn, fm, m1⟩ := h1.fit' ht hi ho
    obtain ⟨fp, fq, q1⟩ := h2.fit' ht ho hu
    obtain ⟨fx, fy, y1⟩ := h3.fit' ht hi hu
    have hinv : verdE S ms O I = 0 → (0 < nab → iba = mab ∧ jba = nab) ∧ (nab < 0 → iba = -mab ∧ jba = -nab) := fun hv => by
      obtain ⟨_, F, M, T, h⟩ := fba.rat hv
      simp only [Int.toNat_natCast] at h
      exact h1.inverse h hi ho
    have hgu : 1 ≤ (Int.gcd nab qbc : Int) := (gcd_split (a := nab) q1).choose_spec.choose_spec.2.2.2.1
    have hgv : 1 ≤ (Int.gcd pbc mab : Int) := (gcd_split (a := pbc) m1).choose_spec.choose_spec.2.2.2.1
    have cnq := fun (w' : World) => common_any nab qbc w' fn.1 fn.2 (by omega) fq
    have cpm := fun (w' : World) => common_any pbc mab w' fp.1 fp.2 (by omega) fm
    rw [he] at Cab
    rw [hf] at Cbc
    rw [hvac] at Cac
    rw [hvaa] at Caa
    have Hinv := Lib.hid hinv
    have Cnq := Lib.hid cnq
    have Cpm := Lib.hid cpm
    clear fab fbc fac faa fba haa he hf hz1 hz2 hzac hzaa hvac hvaa h1 h2 h3 F1 M1 T1 F2 M2 T2 F3 M3 T3 cnq cpm hinv ht
    generalize (Int.gcd nab qbc : Int) = u at *
    generalize (Int.gcd pbc mab : Int) = v at *
    generalize verdE S ms O I = vba at *
    generalize ms.length = m at *
    generalize (S : Int) = s at *
    generalize (I : Int) = a at *
    generalize (O : Int) = b at *
    generalize (U : Int) = d at *
    obtain ⟨an, han⟩ : ∃ an, (if nab < -nab then -nab else nab) = an := ⟨_, rfl⟩
    obtain ⟨ap, hap⟩ : ∃ ap, (if pbc < -pbc then -pbc else pbc) = ap := ⟨_, rfl⟩
    obtain ⟨ax, hax⟩ : ∃ ax, (if xac < -xac then -xac else xac) = ax := ⟨_, rfl⟩
    have ban : an ≤ 2147483648 → -2147483648 ≤ nab ∧ nab ≤ 2147483648 := fun h => by split at han <;> omega
    have bap : ap ≤ 2147483648 → -2147483648 ≤ pbc ∧ pbc ≤ 2147483648 := fun h => by split at hap <;> omega
    have bax : ax ≤ 2147483648 → -2147483648 ≤ xac ∧ xac ≤ 2147483648 := fun h => by split at hax <;> omega
    have Ban := Lib.hid ban
    have Bap := Lib.hid bap
    have Bax := Lib.hid bax
    have Hch1 := Lib.hid hch1
    have Hch2 := Lib.hid hch2
    clear ban bap bax hch1 hch2
    obtain ⟨fn1, fn2⟩ := fn
    obtain ⟨fp1, fp2⟩ := fp
    obtain ⟨fx1, fx2⟩ := fx
    by_cases k1 : 2147483648 < an
    · go_enter Try.func7, Try.ntmps7
      have t0 : ∀ w', Ext (w.alloc (.cells #[.int .i64 s, .slice A m c] 41)) w' → w'.cell? ⟨w.heap.size, 0, none⟩ = some (.int .i64 s) := fun w' he => he.cell (cells_last rfl rfl)
      have t1 : ∀ w', Ext (w.alloc (.cells #[.int .i64 s, .slice A m c] 41)) w' → w'.cell? ⟨w.heap.size, 1, none⟩ = some (.slice A m c) := fun w' he => he.cell (cells_last rfl rfl)
      have hxb : Ext w (w.alloc (.cells #[.int .i64 s, .slice A m c] 41)) := (Ext.refl w).alloc _
      (repeat (first
        | (go_at_call 43; refine (alive_any _).mono ?_; rintro e w1 ⟨rfl, hx1⟩; have b1 := hx1; simp only [])
        | (go_at_call 21; refine (Hg.out _).mono ?_; rintro e w2 ⟨rfl, hx2⟩; have b2 := b1.trans hx2; simp only [])
        | (go_at_call 34; (with_reducible refine (Caa.out _ (hxb.trans b5)).mono ?_); rintro e w6 ⟨B1, B2, B3, r1, d1, r2, d2, r3, d3, rfl, hx6⟩; have b6 := (b5.trans hx6).alloc (.cells #[.slice B1 r1 d1, .slice B2 r2 d2, .slice B3 r3 d3] 60); simp only [])
        | (go_at_call 34; (with_reducible refine (Cac.out _ (hxb.trans b4)).mono ?_); rintro e w5 ⟨B1, B2, B3, r1, d1, r2, d2, r3, d3, rfl, hx5⟩; have b5 := (b4.trans hx5).alloc (.cells #[.slice B1 r1 d1, .slice B2 r2 d2, .slice B3 r3 d3] 60); simp only [])
        | (go_at_call 34; (with_reducible refine (Cbc.out _ (hxb.trans b3)).mono ?_); rintro e w4 ⟨B1, B2, B3, r1, d1, r2, d2, r3, d3, rfl, hx4⟩; have b4 := (b3.trans hx4).alloc (.cells #[.slice B1 r1 d1, .slice B2 r2 d2, .slice B3 r3 d3] 60); simp only [])
        | (go_at_call 34; (with_reducible refine (Cab.out _ (hxb.trans b2)).mono ?_); rintro e w3 ⟨B1, B2, B3, r1, d1, r2, d2, r3, d3, rfl, hx3⟩; have b3 := (b2.trans hx3).alloc (.cells #[.slice B1 r1 d1, .slice B2 r2 d2, .slice B3 r3 d3] 60); simp only [])
        | go_values | go_skip | go_guarded | go_step | go_upon))
      go_ret
      exact ⟨rfl, hxb.trans b6⟩
    by_cases k2 : 2147483648 < mab
    · go_enter Try.func7, Try.ntmps7
      have t0 : ∀ w', Ext (w.alloc (.cells #[.int .i64 s, .slice A m c] 41)) w' → w'.cell? ⟨w.heap.size, 0, none⟩ = some (.int .i64 s) := fun w' he => he.cell (cells_last rfl rfl)
      have t1 : ∀ w', Ext (w.alloc (.cells #[.int .i64 s, .slice A m c] 41)) w' → w'.cell? ⟨w.heap.size, 1, none⟩ = some (.slice A m c) := fun w' he => he.cell (cells_last rfl rfl)
      have hxb : Ext w (w.alloc (.cells #[.int .i64 s, .slice A m c] 41)) := (Ext.refl w).alloc _
      (repeat (first
        | (go_at_call 43; refine (alive_any _).mono ?_; rintro e w1 ⟨rfl, hx1⟩; have b1 := hx1; simp only [])
        | (go_at_call 21; refine (Hg.out _).mono ?_; rintro e w2 ⟨rfl, hx2⟩; have b2 := b1.trans hx2; simp only [])
        | (go_at_call 34; (with_reducible refine (Caa.out _ (hxb.trans b5)).mono ?_); rintro e w6 ⟨B1, B2, B3, r1, d1, r2, d2, r3, d3, rfl, hx6⟩; have b6 := (b5.trans hx6).alloc (.cells #[.slice B1 r1 d1, .slice B2 r2 d2, .slice B3 r3 d3] 60); simp only [])
        | (go_at_call 34; (with_reducible refine (Cac.out _ (hxb.trans b4)).mono ?_); rintro e w5 ⟨B1, B2, B3, r1, d1, r2, d2, r3, d3, rfl, hx5⟩; have b5 := (b4.trans hx5).alloc (.cells #[.slice B1 r1 d1, .slice B2 r2 d2, .slice B3 r3 d3] 60); simp only [])
        | (go_at_call 34; (with_reducible refine (Cbc.out _ (hxb.trans b3)).mono ?_); rintro e w4 ⟨B1, B2, B3, r1, d1, r2, d2, r3, d3, rfl, hx4⟩; have b4 := (b3.trans hx4).alloc (.cells #[.slice B1 r1 d1, .slice B2 r2 d2, .slice B3 r3 d3] 60); simp only [])
        | (go_at_call 34; (with_reducible refine (Cab.out _ (hxb.trans b2)).mono ?_); rintro e w3 ⟨B1, B2, B3, r1, d1, r2, d2, r3, d3, rfl, hx3⟩; have b3 := (b2.trans hx3).alloc (.cells #[.slice B1 r1 d1, .slice B2 r2 d2, .slice B3 r3 d3] 60); simp only [])
        | go_values | go_skip | go_guarded | go_step | go_upon))
      go_ret
      exact ⟨rfl, hxb.trans b6⟩
    by_cases k3 : 2147483648 < ap
    · go_enter Try.func7, Try.ntmps7
      have t0 : ∀ w', Ext (w.alloc (.cells #[.int .i64 s, .slice A m c] 41)) w' → w'.cell? ⟨w.heap.size, 0, none⟩ = some (.int .i64 s) := fun w' he => he.cell (cells_last rfl rfl)
      have t1 : ∀ w', Ext (w.alloc (.cells #[.int .i64 s, .slice A m c] 41)) w' → w'.cell? ⟨w.heap.size, 1, none⟩ = some (.slice A m c) := fun w' he => he.cell (cells_last rfl rfl)
      have hxb : Ext w (w.alloc (.cells #[.int .i64 s, .slice A m c] 41)) := (Ext.refl w).alloc _
      (repeat (first
        | (go_at_call 43; refine (alive_any _).mono ?_; rintro e w1 ⟨rfl, hx1⟩; have b1 := hx1; simp only [])
        | (go_at_call 21; refine (Hg.out _).mono ?_; rintro e w2 ⟨rfl, hx2⟩; have b2 := b1.trans hx2; simp only [])
        | (go_at_call 34; (with_reducible refine (Caa.out _ (hxb.trans b5)).mono ?_); rintro e w6 ⟨B1, B2, B3, r1, d1, r2, d2, r3, d3, rfl, hx6⟩; have b6 := (b5.trans hx6).alloc (.cells #[.slice B1 r1 d1, .slice B2 r2 d2, .slice B3 r3 d3] 60); simp only [])
        | (go_at_call 34; (with_reducible refine (Cac.out _ (hxb.trans b4)).mono ?_); rintro e w5 ⟨B1, B2, B3, r1, d1, r2, d2, r3, d3, rfl, hx5⟩; have b5 := (b4.trans hx5).alloc (.cells #[.slice B1 r1 d1, .slice B2 r2 d2, .slice B3 r3 d3] 60); simp only [])
        | (go_at_call 34; (with_reducible refine (Cbc.out _ (hxb.trans b3)).mono ?_); rintro e w4 ⟨B1, B2, B3, r1, d1, r2, d2, r3, d3, rfl, hx4⟩; have b4 := (b3.trans hx4).alloc (.cells #[.slice B1 r1 d1, .slice B2 r2 d2, .slice B3 r3 d3] 60); simp only [])
        | (go_at_call 34; (with_reducible refine (Cab.out _ (hxb.trans b2)).mono ?_); rintro e w3 ⟨B1, B2, B3, r1, d1, r2, d2, r3, d3, rfl, hx3⟩; have b3 := (b2.trans hx3).alloc (.cells #[.slice B1 r1 d1, .slice B2 r2 d2, .slice B3 r3 d3] 60); simp only [])
        | go_values | go_skip | go_guarded | go_step | go_upon))
      go_ret
      exact ⟨rfl, hxb.trans b6⟩
    by_cases k4 : 2147483648 < qbc
    · go_enter Try.func7, Try.ntmps7
      have t0 : ∀ w', Ext (w.alloc (.cells #[.int .i64 s, .slice A m c] 41)) w' → w'.cell? ⟨w.heap.size, 0, none⟩ = some (.int .i64 s) := fun w' he => he.cell (cells_last rfl rfl)
      have t1 : ∀ w', Ext (w.alloc (.cells #[.int .i64 s, .slice A m c] 41)) w' → w'.cell? ⟨w.heap.size, 1, none⟩ = some (.slice A m c) := fun w' he => he.cell (cells_last rfl rfl)
      have hxb : Ext w (w.alloc (.cells #[.int .i64 s, .slice A m c] 41)) := (Ext.refl w).alloc _
      (repeat (first
        | (go_at_call 43; refine (alive_any _).mono ?_; rintro e w1 ⟨rfl, hx1⟩; have b1 := hx1; simp only [])
        | (go_at_call 21; refine (Hg.out _).mono ?_; rintro e w2 ⟨rfl, hx2⟩; have b2 := b1.trans hx2; simp only [])
        | (go_at_call 34; (with_reducible refine (Caa.out _ (hxb.trans b5)).mono ?_); rintro e w6 ⟨B1, B2, B3, r1, d1, r2, d2, r3, d3, rfl, hx6⟩; have b6 := (b5.trans hx6).alloc (.cells #[.slice B1 r1 d1, .slice B2 r2 d2, .slice B3 r3 d3] 60); simp only [])
        | (go_at_call 34; (with_reducible refine (Cac.out _ (hxb.trans b4)).mono ?_); rintro e w5 ⟨B1, B2, B3, r1, d1, r2, d2, r3, d3, rfl, hx5⟩; have b5 := (b4.trans hx5).alloc (.cells #[.slice B1 r1 d1, .slice B2 r2 d2, .slice B3 r3 d3] 60); simp only [])
        | (go_at_call 34; (with_reducible refine (Cbc.out _ (hxb.trans b3)).mono ?_); rintro e w4 ⟨B1, B2, B3, r1, d1, r2, d2, r3, d3, rfl, hx4⟩; have b4 := (b3.trans hx4).alloc (.cells #[.slice B1 r1 d1, .slice B2 r2 d2, .slice B3 r3 d3] 60); simp only [])
        | (go_at_call 34; (with_reducible refine (Cab.out _ (hxb.trans b2)).mono ?_); rintro e w3 ⟨B1, B2, B3, r1, d1, r2, d2, r3, d3, rfl, hx3⟩; have b3 := (b2.trans hx3).alloc (.cells #[.slice B1 r1 d1, .slice B2 r2 d2, .slice B3 r3 d3] 60); simp only [])
        | go_values | go_skip | go_guarded | go_step | go_upon))
      go_ret
      exact ⟨rfl, hxb.trans b6⟩
    by_cases k5 : 2147483648 < ax
    · go_enter Try.func7, Try.ntmps7
      have t0 : ∀ w', Ext (w.alloc (.cells #[.int .i64 s, .slice A m c] 41)) w' → w'.cell? ⟨w.heap.size, 0, none⟩ = some (.int .i64 s) := fun w' he => he.cell (cells_last rfl rfl)
      have t1 : ∀ w', Ext (w.alloc (.cells #[.int .i64 s, .slice A m c] 41)) w' → w'.cell? ⟨w.heap.size, 1, none⟩ = some (.slice A m c) := fun w' he => he.cell (cells_last rfl rfl)
      have hxb : Ext w (w.alloc (.cells #[.int .i64 s, .slice A m c] 41)) := (Ext.refl w).alloc _
      (repeat (first
        | (go_at_call 43; refine (alive_any _).mono ?_; rintro e w1 ⟨rfl, hx1⟩; have b1 := hx1; simp only [])
        | (go_at_call 21; refine (Hg.out _).mono ?_; rintro e w2 ⟨rfl, hx2⟩; have b2 := b1.trans hx2; simp only [])
        | (go_at_call 34; (with_reducible refine (Caa.out _ (hxb.trans b5)).mono ?_); rintro e w6 ⟨B1, B2, B3, r1, d1, r2, d2, r3, d3, rfl, hx6⟩; have b6 := (b5.trans hx6).alloc (.cells #[.slice B1 r1 d1, .slice B2 r2 d2, .slice B3 r3 d3] 60); simp only [])
        | (go_at_call 34; (with_reducible refine (Cac.out _ (hxb.trans b4)).mono ?_); rintro e w5 ⟨B1, B2, B3, r1, d1, r2, d2, r3, d3, rfl, hx5⟩; have b5 := (b4.trans hx5).alloc (.cells #[.slice B1 r1 d1, .slice B2 r2 d2, .slice B3 r3 d3] 60); simp only [])
        | (go_at_call 34; (with_reducible refine (Cbc.out _ (hxb.trans b3)).mono ?_); rintro e w4 ⟨B1, B2, B3, r1, d1, r2, d2, r3, d3, rfl, hx4⟩; have b4 := (b3.trans hx4).alloc (.cells #[.slice B1 r1 d1, .slice B2 r2 d2, .slice B3 r3 d3] 60); simp only [])
        | (go_at_call 34; (with_reducible refine (Cab.out _ (hxb.trans b2)).mono ?_); rintro e w3 ⟨B1, B2, B3, r1, d1, r2, d2, r3, d3, rfl, hx3⟩; have b3 := (b2.trans hx3).alloc (.cells #[.slice B1 r1 d1, .slice B2 r2 d2, .slice B3 r3 d3] 60); simp only [])
        | go_values | go_skip | go_guarded | go_step | go_upon))
      go_ret
      exact ⟨rfl, hxb.trans b6⟩
    by_cases k6 : 2147483648 < yac
    · go_enter Try.func7, Try.ntmps7
      have t0 : ∀ w', Ext (w.alloc (.cells #[.int .i64 s, .slice A m c] 41)) w' → w'.cell? ⟨w.heap.size, 0, none⟩ = some (.int .i64 s) := fun w' he => he.cell (cells_last rfl rfl)
      have t1 : ∀ w', Ext (w.alloc (.cells #[.int .i64 s, .slice A m c] 41)) w' → w'.cell? ⟨w.heap.size, 1, none⟩ = some (.slice A m c) := fun w' he => he.cell (cells_last rfl rfl)
      have hxb : Ext w (w.alloc (.cells #[.int .i64 s, .slice A m c] 41)) := (Ext.refl w).alloc _
      (repeat (first
        | (go_at_call 43; refine (alive_any _).mono ?_; rintro e w1 ⟨rfl, hx1⟩; have b1 := hx1; simp only [])
        | (go_at_call 21; refine (Hg.out _).mono ?_; rintro e w2 ⟨rfl, hx2⟩; have b2 := b1.trans hx2; simp only [])
        | (go_at_call 34; (with_reducible refine (Caa.out _ (hxb.trans b5)).mono ?_); rintro e w6 ⟨B1, B2, B3, r1, d1, r2, d2, r3, d3, rfl, hx6⟩; have b6 := (b5.trans hx6).alloc (.cells #[.slice B1 r1 d1, .slice B2 r2 d2, .slice B3 r3 d3] 60); simp only [])
        | (go_at_call 34; (with_reducible refine (Cac.out _ (hxb.trans b4)).mono ?_); rintro e w5 ⟨B1, B2, B3, r1, d1, r2, d2, r3, d3, rfl, hx5⟩; have b5 := (b4.trans hx5).alloc (.cells #[.slice B1 r1 d1, .slice B2 r2 d2, .slice B3 r3 d3] 60); simp only [])
        | (go_at_call 34; (with_reducible refine (Cbc.out _ (hxb.trans b3)).mono ?_); rintro e w4 ⟨B1, B2, B3, r1, d1, r2, d2, r3, d3, rfl, hx4⟩; have b4 := (b3.trans hx4).alloc (.cells #[.slice B1 r1 d1, .slice B2 r2 d2, .slice B3 r3 d3] 60); simp only [])
        | (go_at_call 34; (with_reducible refine (Cab.out _ (hxb.trans b2)).mono ?_); rintro e w3 ⟨B1, B2, B3, r1, d1, r2, d2, r3, d3, rfl, hx3⟩; have b3 := (b2.trans hx3).alloc (.cells #[.slice B1 r1 d1, .slice B2 r2 d2, .slice B3 r3 d3] 60); simp only [])
        | go_values | go_skip | go_guarded | go_step | go_upon))
      go_ret
      exact ⟨rfl, hxb.trans b6⟩
    obtain ⟨bn1, bn2⟩ := Ban.out (by omega)
    obtain ⟨bp1, bp2⟩ := Bap.out (by omega)
    obtain ⟨bx1, bx2⟩ := Bax.out (by omega)
    obtain ⟨n1, hn1⟩ : ∃ z, nab.tdiv u = z := ⟨_, rfl⟩
    obtain ⟨p1, hp1⟩ : ∃ z, pbc.tdiv v = z := ⟨_, rfl⟩
    obtain ⟨z1, hz1⟩ : ∃ z, mab.tdiv v = z := ⟨_, rfl⟩
    obtain ⟨q1', hq1⟩ : ∃ z, qbc.tdiv u = z := ⟨_, rfl⟩
    have e1 := wrap_tdiv (by omega) hn1
    have e2 := wrap_tdiv (by omega) hp1
    have e3 := wrap_tdiv (by omega) hz1
    have e4 := wrap_tdiv (by omega) hq1
    have o1 := Hch1.out
    have o2 := Hch2.out
    rw [hn1, hp1] at o1
    rw [hz1, hq1] at o2
    have e5 : IntKind.i64.wrap (n1 * p1) = xac := by rw [IntKind.wrap_i64, o1]; omega
    have e6 : IntKind.i64.wrap (z1 * q1') = yac := by rw [IntKind.wrap_i64, o2]; omega
    have nu : ¬ u = 0 := by omega
    have nv : ¬ v = 0 := by omega
    clear Hch1 Hch2 Ban Bap Bax o1 o2 hn1 hp1 hz1 hq1
    go_enter Try.func7, Try.ntmps7
    have t0 : ∀ w', Ext (w.alloc (.cells #[.int .i64 s, .slice A m c] 41)) w' → w'.cell? ⟨w.heap.size, 0, none⟩ = some (.int .i64 s) := fun w' he => he.cell (cells_last rfl rfl)
    have t1 : ∀ w', Ext (w.alloc (.cells #[.int .i64 s, .slice A m c] 41)) w' → w'.cell? ⟨w.heap.size, 1, none⟩ = some (.slice A m c) := fun w' he => he.cell (cells_last rfl rfl)
    have hxb : Ext w (w.alloc (.cells #[.int .i64 s, .slice A m c] 41)) := (Ext.refl w).alloc _
    (repeat (first
      | (go_at_call 43; refine (alive_any _).mono ?_; rintro e w1 ⟨rfl, hx1⟩; have b1 := hx1; simp only [])
      | (go_at_call 21; refine (Hg.out _).mono ?_; rintro e w2 ⟨rfl, hx2⟩; have b2 := b1.trans hx2; simp only [])
      | (go_at_call 34; (with_reducible refine (Caa.out _ (hxb.trans b5)).mono ?_); rintro e w6 ⟨B1, B2, B3, r1, d1, r2, d2, r3, d3, rfl, hx6⟩; have b6 := (b5.trans hx6).alloc (.cells #[.slice B1 r1 d1, .slice B2 r2 d2, .slice B3 r3 d3] 60); simp only [])
      | (go_at_call 34; (with_reducible refine (Cac.out _ (hxb.trans b4)).mono ?_); rintro e w5 ⟨B1, B2, B3, r1, d1, r2, d2, r3, d3, rfl, hx5⟩; have b5 := (b4.trans hx5).alloc (.cells #[.slice B1 r1 d1, .slice B2 r2 d2, .slice B3 r3 d3] 60); simp only [])
      | (go_at_call 34; (with_reducible refine (Cbc.out _ (hxb.trans b3)).mono ?_); rintro e w4 ⟨B1, B2, B3, r1, d1, r2, d2, r3, d3, rfl, hx4⟩; have b4 := (b3.trans hx4).alloc (.cells #[.slice B1 r1 d1, .slice B2 r2 d2, .slice B3 r3 d3] 60); simp only [])
      | (go_at_call 34; (with_reducible refine (Cab.out _ (hxb.trans b2)).mono ?_); rintro e w3 ⟨B1, B2, B3, r1, d1, r2, d2, r3, d3, rfl, hx3⟩; have b3 := (b2.trans hx3).alloc (.cells #[.slice B1 r1 d1, .slice B2 r2 d2, .slice B3 r3 d3] 60); simp only [])
      | (go_at_call 46; (with_reducible refine (Cnq.out _).mono ?_); rintro e w7 ⟨rfl, hx7⟩; have b7 := b6.trans hx7; simp only [])
      | (go_at_call 46; (with_reducible refine (Cpm.out _).mono ?_); rintro e w8 ⟨rfl, hx8⟩; have b8 := b7.trans hx8; simp only [])
      | go_values | go_skip | go_guarded | go_step | go_upon))
    refine wp_region_calm 20 (fun _ _ _ _ => True) (fun _ _ _ _ _ _ h => h) (by kernel_rfl) (by kernel_rfl) ?_
    simp only [List.take_succ_cons, List.take_zero, List.drop_succ_cons, List.drop_zero]
    refine calm_quiet calm_mono_final 20 (by kernel_rfl) ?_
    simp only [List.take_succ_cons, List.take_zero, List.drop_succ_cons, List.drop_zero]
    repeat (go_big_quiet_step (fail))
    refine wpQuiet_nil ?_
    refine calm_nil fun w9 hx9 _ => ?_
    have b9 := b8.trans hx9
    clear hx9 e1 e2 e3 e4 e5 e6
    by_cases hn0 : nab = 0
    · subst hn0
      (repeat (first
        | (go_at_call 34; (with_reducible refine (Cba.out _ (hxb.trans b9)).mono ?_); rintro e w10 ⟨B1, B2, B3, r1, d1, r2, d2, r3, d3, rfl, hx10⟩; have b10 := (b9.trans hx10).alloc (.cells #[.slice B1 r1 d1, .slice B2 r2 d2, .slice B3 r3 d3] 60); simp only [])
        | go_values | go_skip | go_guarded | go_step | go_upon))
      go_ret
      exact ⟨rfl, hxb.trans b10⟩
    by_cases hv0 : vba = 0
    · obtain ⟨hp, hm⟩ := Hinv.out hv0
      subst hv0
      clear Hinv
      by_cases hpos : 0 < nab
      · obtain ⟨rfl, rfl⟩ := hp hpos
        clear hp hm
        (repeat (first
          | (go_at_call 34; (with_reducible refine (Cba.out _ (hxb.trans b9)).mono ?_); rintro e w10 ⟨B1, B2, B3, r1, d1, r2, d2, r3, d3, rfl, hx10⟩; have b10 := (b9.trans hx10).alloc (.cells #[.slice B1 r1 d1, .slice B2 r2 d2, .slice B3 r3 d3] 60); simp only [])
          | go_values | go_skip | go_guarded | go_step | go_upon))
        go_ret
        exact ⟨rfl, hxb.trans b10⟩
      · obtain ⟨rfl, rfl⟩ := hm (by omega)
        clear hp hm
        (repeat (first
          | (go_at_call 34; (with_reducible refine (Cba.out _ (hxb.trans b9)).mono ?_); rintro e w10 ⟨B1, B2, B3, r1, d1, r2, d2, r3, d3, rfl, hx10⟩; have b10 := (b9.trans hx10).alloc (.cells #[.slice B1 r1 d1, .slice B2 r2 d2, .slice B3 r3 d3] 60); simp only [])
          | go_values | go_skip | go_guarded | go_step | go_upon))
        go_ret
        exact ⟨rfl, hxb.trans b10⟩
    · clear Hinv
      have hn1 : (nab == 0) = false := by simp [hn0]
      have hv1 : (vba != 0) = true := by simp [hv0]
      (repeat (first
        | (go_at_call 34; (with_reducible refine (Cba.out _ (hxb.trans b9)).mono ?_); rintro e w10 ⟨B1, B2, B3, r1, d1, r2, d2, r3, d3, rfl, hx10⟩; have b10 := (b9.trans hx10).alloc (.cells #[.slice B1 r1 d1, .slice B2 r2 d2, .slice B3 r3 d3] 60); simp only [])
        | go_values | go_skip | go_guarded | go_step | go_upon))
      go_ret
      exact ⟨rfl, hxb.trans b10⟩
  · clear fab fbc fac faa fba Cba
    generalize ms.length = m at *
    generalize verdE s ms a b = vab at *
    generalize verdE s ms b d = vbc at *
    generalize verdE s ms a d = vac at *
    generalize verdE s ms a a = vaa at *
    have h42 := haa.2
    have h01 := haa.1
    clear haa
    have hcase : ¬ vab = 0 ∨ vab = 0 ∧ ¬ vbc = 0 := by omega
    clear hef
    by_cases v0 : vaa = 0
    · obtain ⟨rfl, rfl⟩ := h01 v0
      subst v0
      rcases hcase with k1 | ⟨rfl, k2⟩
      all_goals
        go_enter Try.func7, Try.ntmps7
        have t0 : ∀ w', Ext (w.alloc (.cells #[.int .i64 s, .slice A m c] 41)) w' → w'.cell? ⟨w.heap.size, 0, none⟩ = some (.int .i64 s) := fun w' he => he.cell (cells_last rfl rfl)
        have t1 : ∀ w', Ext (w.alloc (.cells #[.int .i64 s, .slice A m c] 41)) w' → w'.cell? ⟨w.heap.size, 1, none⟩ = some (.slice A m c) := fun w' he => he.cell (cells_last rfl rfl)
        have hxb : Ext w (w.alloc (.cells #[.int .i64 s, .slice A m c] 41)) := (Ext.refl w).alloc _
        (repeat (first
          | (go_at_call 43; refine (alive_any _).mono ?_; rintro e w1 ⟨rfl, hx1⟩; have b1 := hx1; simp only [])
          | (go_at_call 21; refine (Hg.out _).mono ?_; rintro e w2 ⟨rfl, hx2⟩; have b2 := b1.trans hx2; simp only [])
          | (go_at_call 34; (with_reducible refine (Caa.out _ (hxb.trans b5)).mono ?_); rintro e w6 ⟨B1, B2, B3, r1, d1, r2, d2, r3, d3, rfl, hx6⟩; have b6 := (b5.trans hx6).alloc (.cells #[.slice B1 r1 d1, .slice B2 r2 d2, .slice B3 r3 d3] 60); simp only [])
          | (go_at_call 34; (with_reducible refine (Cac.out _ (hxb.trans b4)).mono ?_); rintro e w5 ⟨B1, B2, B3, r1, d1, r2, d2, r3, d3, rfl, hx5⟩; have b5 := (b4.trans hx5).alloc (.cells #[.slice B1 r1 d1, .slice B2 r2 d2, .slice B3 r3 d3] 60); simp only [])
          | (go_at_call 34; (with_reducible refine (Cbc.out _ (hxb.trans b3)).mono ?_); rintro e w4 ⟨B1, B2, B3, r1, d1, r2, d2, r3, d3, rfl, hx4⟩; have b4 := (b3.trans hx4).alloc (.cells #[.slice B1 r1 d1, .slice B2 r2 d2, .slice B3 r3 d3] 60); simp only [])
          | (go_at_call 34; (with_reducible refine (Cab.out _ (hxb.trans b2)).mono ?_); rintro e w3 ⟨B1, B2, B3, r1, d1, r2, d2, r3, d3, rfl, hx3⟩; have b3 := (b2.trans hx3).alloc (.cells #[.slice B1 r1 d1, .slice B2 r2 d2, .slice B3 r3 d3] 60); simp only [])
          | go_values | go_skip | go_guarded | go_step | go_upon))
        go_ret
        exact ⟨rfl, hxb.trans b6⟩
    · clear h01
      rcases hcase with k1 | ⟨rfl, k2⟩
      all_goals
        go_enter Try.func7, Try.ntmps7
        have t0 : ∀ w', Ext (w.alloc (.cells #[.int .i64 s, .slice A m c] 41)) w' → w'.cell? ⟨w.heap.size, 0, none⟩ = some (.int .i64 s) := fun w' he => he.cell (cells_last rfl rfl)
        have t1 : ∀ w', Ext (w.alloc (.cells #[.int .i64 s, .slice A m c] 41)) w' → w'.cell? ⟨w.heap.size, 1, none⟩ = some (.slice A m c) := fun w' he => he.cell (cells_last rfl rfl)
        have hxb : Ext w (w.alloc (.cells #[.int .i64 s, .slice A m c] 41)) := (Ext.refl w).alloc _
        (repeat (first
          | (go_at_call 43; refine (alive_any _).mono ?_; rintro e w1 ⟨rfl, hx1⟩; have b1 := hx1; simp only [])
          | (go_at_call 21; refine (Hg.out _).mono ?_; rintro e w2 ⟨rfl, hx2⟩; have b2 := b1.trans hx2; simp only [])
          | (go_at_call 34; (with_reducible refine (Caa.out _ (hxb.trans b5)).mono ?_); rintro e w6 ⟨B1, B2, B3, r1, d1, r2, d2, r3, d3, rfl, hx6⟩; have b6 := (b5.trans hx6).alloc (.cells #[.slice B1 r1 d1, .slice B2 r2 d2, .slice B3 r3 d3] 60); simp only [])
          | (go_at_call 34; (with_reducible refine (Cac.out _ (hxb.trans b4)).mono ?_); rintro e w5 ⟨B1, B2, B3, r1, d1, r2, d2, r3, d3, rfl, hx5⟩; have b5 := (b4.trans hx5).alloc (.cells #[.slice B1 r1 d1, .slice B2 r2 d2, .slice B3 r3 d3] 60); simp only [])
          | (go_at_call 34; (with_reducible refine (Cbc.out _ (hxb.trans b3)).mono ?_); rintro e w4 ⟨B1, B2, B3, r1, d1, r2, d2, r3, d3, rfl, hx4⟩; have b4 := (b3.trans hx4).alloc (.cells #[.slice B1 r1 d1, .slice B2 r2 d2, .slice B3 r3 d3] 60); simp only [])
          | (go_at_call 34; (with_reducible refine (Cab.out _ (hxb.trans b2)).mono ?_); rintro e w3 ⟨B1, B2, B3, r1, d1, r2, d2, r3, d3, rfl, hx3⟩; have b3 := (b2.trans hx3).alloc (.cells #[.slice B1 r1 d1, .slice B2 r2 d2, .slice B3 r3 d3] 60); simp only [])
          | go_values | go_skip | go_guarded | go_step | go_upon))
        go_ret
        exact ⟨rfl, hxb.trans b6⟩
end Go.Proofs.Ytbclbcldplmppaa
