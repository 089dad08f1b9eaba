/- Places: what the small functions compute, by the code and by the reference. -/
import Derived.Test.YteilglljigjefaaR01
namespace Go.Proofs.Yteilglljigjefaa
open Go.RowKit

theorem ret_i {a b : Int} (h : a = b) : Ending.returned (.int .i64 a) = .returned (.int .i64 b) := by rw [h]
theorem ret_b {a b : Bool} (h : a = b) : Ending.returned (.bool a) = .returned (.bool b) := by rw [h]

def withinB (n lo hi : Int) : Bool := decide (lo ≤ n) && decide (n ≤ hi)
theorem withinB_true {n lo hi : Int} : withinB n lo hi = true ↔ lo ≤ n ∧ n ≤ hi := by simp [withinB]
theorem withinB_false {n lo hi : Int} : withinB n lo hi = false ↔ ¬(lo ≤ n ∧ n ≤ hi) := by rw [← withinB_true]; cases withinB n lo hi <;> simp

theorem within_any (n lo hi : Int) (w : World) :
    Calls Try.prog 58 #[.int .i64 n, .int .i64 lo, .int .i64 hi] w fun e w' => e = .returned (.bool (withinB n lo hi)) ∧ w = w' := by
  go_enter Try.func58, Try.ntmps58
  go_wp2
  all_goals go_ret
  all_goals exact ⟨ret_b (by simp [withinB]; omega), rfl⟩

/-- The numbers of a pose are small. -/
structure PsOk (p : Ps) : Prop where
  bp : -15625 ≤ p.p ∧ p.p ≤ 15625
  bq : -15625 ≤ p.q ∧ p.q ≤ 15625
  bx : -9375000 ≤ p.x ∧ p.x ≤ 9375000
  bz : -9375000 ≤ p.y ∧ p.y ≤ 9375000
  bd : 1 ≤ p.d ∧ p.d ≤ 15625
theorem psOk {p : Ps} (h : PoseOk p 3) : PsOk p := ⟨(pose_small h).2.1, (pose_small h).2.2.1, (pose_small h).2.2.2.1, (pose_small h).2.2.2.2, (pose_small h).1⟩

set_option maxHeartbeats 400000 in
theorem place_any (p : Ps) (s : Sp) (w : World) (hp : PsOk p) (hs : spotB s) :
    Calls Try.prog 81 #[p.val, s.val] w fun e w' => e = .returned (plc p s).val ∧ Ext w w' := by
  obtain ⟨P, Q, X, Y, D⟩ := p
  obtain ⟨x, y⟩ := s
  obtain ⟨p1, p2, p3, p4, p5⟩ := hp
  obtain ⟨s1, s2⟩ := hs
  simp only at p1 p2 p3 p4 p5 s1 s2
  have e1 := prod_le p1.1 p1.2 s1.1 s1.2
  have e2 := prod_le p2.1 p2.2 s2.1 s2.2
  have e3 := prod_le p2.1 p2.2 s1.1 s1.2
  have e4 := prod_le p1.1 p1.2 s2.1 s2.2
  simp only [Int.reduceMul] at e1 e2 e3 e4
  go_enter Try.func81, Try.ntmps81
  go_wp2
  exact bodyPost_ret (v := (plc ⟨P, Q, X, Y, D⟩ ⟨x, y⟩).val) (by simp [results, Try.results81, go_sem, plc]) rfl ⟨rfl, by simp (maxDischargeDepth := 8)⟩
set_option maxHeartbeats 400000 in
theorem at_any (p : Ps) (s : Sp) (w : World) (hp : PsOk p) (hs : spotB s) :
    Calls Try.prog 47 #[p.val, s.val] w fun e w' => e = .returned (plc p s).val ∧ Ext w w' := by
  obtain ⟨P, Q, X, Y, D⟩ := p
  obtain ⟨x, y⟩ := s
  obtain ⟨p1, p2, p3, p4, p5⟩ := hp
  obtain ⟨s1, s2⟩ := hs
  simp only at p1 p2 p3 p4 p5 s1 s2
  have e1 := prod_le p1.1 p1.2 s1.1 s1.2
  have e2 := prod_le p2.1 p2.2 s2.1 s2.2
  have e3 := prod_le p2.1 p2.2 s1.1 s1.2
  have e4 := prod_le p1.1 p1.2 s2.1 s2.2
  simp only [Int.reduceMul] at e1 e2 e3 e4
  go_enter Try.func47, Try.ntmps47
  go_wp2
  exact bodyPost_ret (v := (plc ⟨P, Q, X, Y, D⟩ ⟨x, y⟩).val) (by simp [results, Try.results47, go_sem, plc]) rfl ⟨rfl, by simp (maxDischargeDepth := 8)⟩

set_option maxHeartbeats 400000 in
theorem side_any (a b c : Cn) (w : World) (he : EdgeOk a b) (hc : CnOk c) :
    Calls Try.prog 62 #[a.val, b.val, c.val] w fun e w' => e = .returned (.int .i64 (sideC a b c)) ∧ Ext w w' := by
  have hf := side_fit he.ca.d hc.d he.ca.x he.ca.y hc.x hc.y he.x he.y
  have hx := he.x
  have hy := he.y
  obtain ⟨⟨ax, ay⟩, d⟩ := a
  obtain ⟨⟨bx, bY⟩, bd⟩ := b
  obtain ⟨⟨cx, cy⟩, e⟩ := c
  simp only at hf hx hy
  obtain ⟨f1, f2, f3, f4, f5, f6⟩ := hf
  clear he hc
  go_enter Try.func62, Try.ntmps62
  go_wp2
  go_ret
  exact ⟨rfl, by simp (maxDischargeDepth := 8)⟩
set_option maxHeartbeats 400000 in
theorem beside_any (a b : Sp) (d : Int) (c : Sp) (e : Int) (w : World) (he : EdgeOk ⟨a, d⟩ ⟨b, d⟩) (hc : CnOk ⟨c, e⟩) :
    Calls Try.prog 102 #[a.val, b.val, .int .i64 d, c.val, .int .i64 e] w fun e' w' => e' = .returned (.int .i64 (sideS a b d c e)) ∧ Ext w w' := by
  have hf := side_fit he.ca.d hc.d he.ca.x he.ca.y hc.x hc.y he.x he.y
  have hx := he.x
  have hy := he.y
  obtain ⟨ax, ay⟩ := a
  obtain ⟨bx, bY⟩ := b
  obtain ⟨cx, cy⟩ := c
  simp only at hf hx hy
  obtain ⟨f1, f2, f3, f4, f5, f6⟩ := hf
  clear he hc
  go_enter Try.func102, Try.ntmps102
  go_wp2
  go_ret
  exact ⟨rfl, by simp (maxDischargeDepth := 8)⟩
set_option maxHeartbeats 400000 in
theorem left_any (a b c : Sp) (w : World) (ha : spotB a) (hb : spotB b) (hc : spotB c) :
    Calls Try.prog 88 #[a.val, b.val, c.val] w fun e w' => e = .returned (.int .i64 (sd a b c)) ∧ Ext w w' := by
  obtain ⟨ax, ay⟩ := a
  obtain ⟨bx, bY⟩ := b
  obtain ⟨cx, cy⟩ := c
  obtain ⟨a1, a2⟩ := ha
  obtain ⟨b1, b2⟩ := hb
  obtain ⟨c1, c2⟩ := hc
  simp only at a1 a2 b1 b2 c1 c2
  have e1 := prod_le (a := bx - ax) (d := 100) (s := cy - ay) (m := 100) (by omega) (by omega) (by omega) (by omega)
  have e2 := prod_le (a := bY - ay) (d := 100) (s := cx - ax) (m := 100) (by omega) (by omega) (by omega) (by omega)
  simp only [Int.reduceMul] at e1 e2
  go_enter Try.func88, Try.ntmps88
  go_wp2
  go_ret
  exact ⟨rfl, by simp (maxDischargeDepth := 8)⟩
set_option maxHeartbeats 400000 in
theorem gap_any (p : Ps) (a b : Sp) (w : World) (hp : PsOk p) (ha : spotB a) (hb : spotB b) :
    Calls Try.prog 54 #[p.val, a.val, b.val] w fun e w' => e = .returned (gapS p a b).val ∧ Ext w w' := by
  have cp := fun w' => place_any p a w' hp ha
  have Cp := Lib.hid cp
  clear cp
  have hpl : (-11000000 ≤ (plc p a).x ∧ (plc p a).x ≤ 11000000) ∧ (-11000000 ≤ (plc p a).y ∧ (plc p a).y ≤ 11000000) := by
    have e1 := prod_le hp.bp.1 hp.bp.2 ha.1.1 ha.1.2
    have e2 := prod_le hp.bq.1 hp.bq.2 ha.2.1 ha.2.2
    have e3 := prod_le hp.bq.1 hp.bq.2 ha.1.1 ha.1.2
    have e4 := prod_le hp.bp.1 hp.bp.2 ha.2.1 ha.2.2
    have := hp.bx
    have := hp.bz
    unfold plc
    simp only
    omega
  have hg : gapS p a b = ⟨(plc p a).x - b.x * p.d, (plc p a).y - b.y * p.d⟩ := rfl
  rw [hg]
  clear hg
  generalize plc p a = z at *
  obtain ⟨zx, zy⟩ := z
  obtain ⟨P, Q, X, Y, D⟩ := p
  obtain ⟨ax, ay⟩ := a
  obtain ⟨bx, bY⟩ := b
  obtain ⟨p1, p2, p3, p4, p5⟩ := hp
  obtain ⟨b1, b2⟩ := hb
  simp only at p1 p2 p3 p4 p5 b1 b2 hpl ⊢
  have e1 := prod_le b1.1 b1.2 (s := D) (m := 15625) (by omega) (by omega)
  have e2 := prod_le b2.1 b2.2 (s := D) (m := 15625) (by omega) (by omega)
  simp only [Int.reduceMul] at e1 e2
  go_enter Try.func54, Try.ntmps54
  go_wp2_with (go_at_call 81; refine (Cp.out _).mono ?_; rintro e w1 ⟨rfl, h1⟩; have kd := (((((Blk.new' (n := w.heap.size) (cs := #[vint P, vint Q, vint X, vint Y, vint D]) rfl).ext ((Ext.refl _).alloc _)).ext ((Ext.refl _).alloc _)).ext ((Ext.refl _).alloc _)).ext h1).at_ 4 rfl; have kb := ((((Blk.new' (n := w.heap.size + 1 + 1) (cs := #[vint bx, vint bY]) (by simp)).ext ((Ext.refl _).alloc _)).ext h1)); have kb0 := kb.at_ 0 rfl; have kb1 := kb.at_ 1 rfl; have kr := (((Blk.new' (n := w.heap.size + 1 + 1 + 1) (cs := #[.int .i64 0, .int .i64 0]) (by simp)).ext h1)); have kr0 := kr.at_ 0 rfl; have kr1 := kr.at_ 1 rfl; have kf0 := kr.free 0; have kf1 := kr.free 1; clear kb)
  have kr2 := ((kr.ext ((Ext.refl w1).alloc (.cells #[.int .i64 zx, .int .i64 zy] 27))).set (j := 0) (by simp) (.int .i64 (zx - bx * D))).set (j := 1) (by simp) (.int .i64 (zy - bY * D))
  refine bodyPost_ret (results_spot rfl _ _ rfl kr2) rfl ⟨rfl, ?_⟩
  have h0 : Ext w w1 := Ext.trans (by simp (maxDischargeDepth := 8)) h1
  exact ((h0.alloc _).setCell (by simp; omega) _).setCell (by simp; omega) _
end Go.Proofs.Yteilglljigjefaa

/- The greatest common divisor, by the code (of some numbers) and by the reference (of two). -/
namespace Go.Proofs.Yteilglljigjefaa
open Go.RowKit

theorem gcd_tmod (x y : Int) : Int.gcd y (x.tmod y) = Int.gcd x y := by
  show Nat.gcd y.natAbs (x.tmod y).natAbs = Nat.gcd x.natAbs y.natAbs
  rw [Int.natAbs_tmod, Nat.gcd_comm x.natAbs y.natAbs, Nat.gcd_comm, ← Nat.gcd_rec]
theorem abs_any (a : Int) (w : World) (h : -1000000000000 ≤ a ∧ a ≤ 1000000000000) : Calls Try.prog 107 #[.int .i64 a] w fun e w' => e = .returned (.int .i64 (a.natAbs : Int)) ∧ w = w' := by
  go_enter Try.func107, Try.ntmps107
  go_wp2
  all_goals go_ret
  all_goals exact ⟨ret_i (by omega), rfl⟩

set_option maxHeartbeats 400000 in
theorem gcd_any (a b : Int) (w : World) (ha : -1000000000 ≤ a ∧ a ≤ 1000000000) (hb : -1000000000 ≤ b ∧ b ≤ 1000000000) :
    Calls Try.prog 85 #[.int .i64 a, .int .i64 b] w fun e w' => e = .returned (.int .i64 (Int.gcd a b : Int)) ∧ Ext w w' := by
  have ca := fun (x : Int) (h : -1000000000000 ≤ x ∧ x ≤ 1000000000000) (w' : World) => abs_any x w' h
  have Ca := Lib.hid ca
  clear ca
  go_enter Try.func85, Try.ntmps85
  go_wp2
  go_loopw [0, 1] (fun u v wr => ∃ x y : Int, u = .int .i64 x ∧ v = .int .i64 y ∧ Ext w wr ∧ Int.gcd x y = Int.gcd a b ∧ (-1000000000 ≤ x ∧ x ≤ 1000000000) ∧ -1000000000 ≤ y ∧ y ≤ 1000000000) (fun _ v _ => (intOf v).natAbs)
  case atStart => exact ⟨a, b, rfl, rfl, Ext.refl _, rfl, ha, hb⟩
  case round =>
    obtain ⟨x, y, rfl, rfl, hex, hg, hx, hy1⟩ := hrel
    have Hg := Lib.hid hg
    clear hg
    by_cases hy : y = 0
    · subst hy
      go_wp2_with (go_at_call 107; refine (Ca.out x (by omega) _).mono ?_; rintro e w' ⟨rfl, rfl⟩)
      go_ret
      exact ⟨ret_i (by rw [← Hg.out]; simp), hex⟩
    · have hy' : (y == 0) = false := beq_eq_false_iff_ne.2 hy
      have hy2 : (y != 0) = true := by rw [bne_iff_ne]; exact hy
      have hab : (x.tmod y).natAbs < y.natAbs := by rw [Int.natAbs_tmod]; exact Nat.mod_lt _ (by omega)
      have hg2 := gcd_tmod x y
      have Hg2 := Lib.hid hg2
      clear hg2
      go_wp2
      go_quiet (fail)
      go_wp2
      go_roundw
      case rel => exact ⟨y, x.tmod y, rfl, rfl, hex.trans (by simp), Hg2.out.trans Hg.out, by omega, by omega, by omega⟩
      case measure => simp [intOf]; exact Nat.mod_lt _ (by omega)

/-- The greatest common divisor of some numbers. -/
def gN (xs : List Int) : Nat := xs.foldl (fun g x => Nat.gcd g x.natAbs) 0
theorem gN_succ {xs : List Int} {k : Nat} (h : k < xs.length) : gN (xs.take (k + 1)) = Nat.gcd (gN (xs.take k)) (getI xs k).natAbs := by
  unfold gN
  rw [List.take_succ_eq_append_getElem h, List.foldl_append, getI_eq h]
  rfl
theorem gN_five (p : Ps) : gN [p.p, p.q, p.x, p.y, p.d] = g5 p := by simp [gN, g5]

set_option maxHeartbeats 800000 in
theorem divisor_any (A : Option Addr) (c : Nat) (xs : List Int) (w : World) (hA : Ints w A xs) (hl : xs.length ≤ 1000) (hb : ∀ k, k < xs.length → -1000000000 ≤ getI xs k ∧ getI xs k ≤ 1000000000) :
    Calls Try.prog 82 #[.slice A xs.length c] w fun e w' => e = .returned (.int .i64 (gN xs : Int)) ∧ Ext w w' := by
  have ha := fun k (hk : k < xs.length) => hA.some_ (by omega : 0 < xs.length)
  have hs := fun k (hk : k < xs.length) => gN_succ hk
  have hall : gN (xs.take xs.length) = gN xs := by rw [List.take_length]
  have h0 : gN (xs.take 0) = 0 := rfl
  have Ha := Lib.hid ha
  have Hs := Lib.hid hs
  have Hb := Lib.hid hb
  have Hall := Lib.hid hall
  have H0 := Lib.hid h0
  clear ha hs hb hall h0 hA
  generalize hG : gN xs = G at *
  clear hG
  generalize (fun k => gN (xs.take k)) = F at *
  generalize xs.length = n at *
  go_enter Try.func82, Try.ntmps82
  go_wp2
  go_loopw [8, 3] (fun i o wr => ∃ (k : Nat) (x : Int), k ≤ n ∧ i = .int .i64 k ∧ o = .int .i64 x ∧ Ext w wr ∧ x.natAbs = gN (xs.take k) ∧ -1000000000 ≤ x ∧ x ≤ 1000000000) (fun i _ _ => n - (intOf i).toNat)
  case atStart => exact ⟨0, 0, by omega, rfl, rfl, Ext.refl _, H0.out.symm, by omega, by omega⟩
  case round =>
    obtain ⟨k, x, hk, rfl, rfl, hex, hg, hx1, hx2⟩ := hrel
    have Hg := Lib.hid hg
    clear hg
    by_cases hlt : k < n
    · obtain ⟨ad, rfl, hc0⟩ := Ha.out k hlt
      have hc : ∀ w', Ext wr w' → w'.cell? (ad.add k) = some (.int .i64 (getI xs k)) := fun w' he => hc0 k hlt w' (hex.trans he)
      have hbk := Hb.out k hlt
      have hsk := Hs.out k hlt
      rw [← Hg.out] at hsk
      have Hsk := Lib.hid hsk
      clear hsk Ha Hs Hb hc0
      generalize getI xs k = z at *
      go_wp2
      obtain ⟨wo, rfl⟩ : ∃ wo : World, wo = wr := ⟨_, rfl⟩
      go_loopw [3, 5] (fun u v wr => ∃ x' y : Int, u = .int .i64 x' ∧ v = .int .i64 y ∧ Ext w wr ∧ Int.gcd x' y = Int.gcd x z ∧ (-1000000000 ≤ x' ∧ x' ≤ 1000000000) ∧ -1000000000 ≤ y ∧ y ≤ 1000000000) (fun _ v _ => (intOf v).natAbs)
      case atStart => exact ⟨x, z, rfl, rfl, hex, rfl, ⟨hx1, hx2⟩, hbk⟩
      case round =>
        obtain ⟨x', y, rfl, rfl, hex', hg, hx', hy1⟩ := hrel
        have Hg' := Lib.hid hg
        clear hg
        by_cases hy : y = 0
        · subst hy
          go_wp2
          go_roundw
          case rel => exact ⟨k + 1, x', by omega, by go_num, rfl, hex', by rw [Hsk.out]; have := Hg'.out; simpa [Int.gcd] using this, by omega, by omega⟩
          case measure => simp [intOf]; omega
        · have hy' : (y == 0) = false := beq_eq_false_iff_ne.2 hy
          have hy2 : (y != 0) = true := by rw [bne_iff_ne]; exact hy
          have hab : (x'.tmod y).natAbs < y.natAbs := by rw [Int.natAbs_tmod]; exact Nat.mod_lt _ (by omega)
          have hg2 := gcd_tmod x' y
          have Hg2 := Lib.hid hg2
          clear hg2
          go_wp2
          go_quiet (fail)
          go_wp2
          go_roundw
          case rel => exact ⟨y, x'.tmod y, rfl, rfl, hex'.trans (by simp), Hg2.out.trans Hg'.out, by omega, by omega, by omega⟩
          case measure => simp [intOf]; exact Nat.mod_lt _ (by omega)
    · obtain rfl : n = k := by omega
      go_wp2
      all_goals go_ret
      all_goals exact ⟨ret_i (by rw [← Hall.out, ← Hg.out]; omega), hex⟩
abbrev tval (t : Int × Int × Int) : Value := .agg #[vint t.1, vint t.2.1, vint t.2.2]
end Go.Proofs.Yteilglljigjefaa
